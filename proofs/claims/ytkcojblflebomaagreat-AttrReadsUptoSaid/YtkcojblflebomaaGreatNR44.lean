/-
  Several texts in one.
-/
import Derived.Test.YtkcojblflebomaaGreatNR43
set_option linter.unusedVariables false
set_option linter.unusedSimpArgs false
namespace Go.Proofs.YtkcojblflebomaaGreat
open Go.RowKit Go.MapKept Go.Shelf
open Go.Lib hiding intOf
open Go.Sort hiding Below

set_option maxRecDepth 100000 in
set_option maxHeartbeats 8000000 in
theorem rlist_32 (a : Atr) (f : UInt8) (v : ByteArray) (four : Bool) (w : World) (base : Nat) (hbs : base ≤ w.heap.size) (ha : AtO w base a) (hv : v.size ≤ 1048576) :
    Calls Tryz.prog 92 #[.agg a.ar, .agg #[.int .u8 f.toNat, .int .u8 32, .string v]] w fun e w' => RTPost base (tab 32 v four a.c) w' e ∧ Below w.heap.size w w' := by
  have HAT := Lib.hid ha
  have HNU : Hid (∀ W, Calls Tryz.prog 119 #[.string v, .int .i64 4] W fun e w' => NumPost W.heap.size 4 v e w' ∧ Below W.heap.size W w') := fun W => numbers_4 v W hv
  have hn12 : (0 : Int) ≤ (v.size : Int) := by omega
  by_cases h12 : v.size % 12 ≠ 0
  case pos =>
    have HQF : Hid ((tab 32 v four a.c).2 = false) := t32_bad four a.c (Or.inr h12)
    generalize tab 32 v four a.c = RES at HQF ⊢
    have z1 : ((v.size : Int) % 12 != 0) = true := bne_iff_ne.2 (by omega)
    have z1' : ((v.size : Int) % 12 == 0) = false := beq_eq_false_iff_ne.2 (by omega)
    have z2 : ((v.size : Int).tmod 12 != 0) = true := by rw [Int.tmod_eq_emod_of_nonneg (by omega)]; exact z1
    have z2' : ((v.size : Int).tmod 12 == 0) = false := by rw [Int.tmod_eq_emod_of_nonneg (by omega)]; exact z1'
    clear h12
    go_enter Tryz.func92, Tryz.ntmps92
    go_upto_region 1 with fail
    refine wp_name fun V hV => ?_
    obtain ⟨s, hs⟩ : ∃ s, s = w.heap.size := ⟨_, rfl⟩
    have HC : Hid (CellsAt V s a.ar 40) := by rw [hV, hs]; exact ((CellsAt.new _ _ _).alloc _).alloc _
    have HR : Hid (CellsAt V (s + 1) #[.int .u8 f.toNat, .int .u8 32, .string v] 32) := by rw [hV, hs]; exact new2 _ _ _ _ _
    have HZ : Hid (CellsAt V (s + 1 + 1) noAtr.ar 40) := by rw [hV, hs]; exact new3 _ _ _ _ _
    have HB : Hid (Below w.heap.size w V) := by rw [hV]; exact below3 _ _ _ _
    have HS : Hid (s = w.heap.size) := hs
    rw [← hs] at hbs ⊢
    clear hV hs ha
    obtain ⟨r0, r1, r2⟩ := CellsAt.c3 HR.out
    have HP := HC
    have HQ := HZ
    have HBP := HB
    go_wp2_with (with_reducible show wpList _ _ _ (_ :: _) _ _; first | refine wpList_load_attrs rfl (.tmp 2) rfl s rfl a HP.out ?_ | refine wpList_store_attrs rfl (.tmp 4) (.tmp 22) rfl (s + 1 + 1) rfl a rfl noAtr HQ.out ?_)
    have HF : Hid (CellsAt ((V).setRow (s + 1 + 1) (a : Atr).ar) (s + 1 + 1) (a : Atr).ar 40) := HQ.out.setRow' _
    have HBF : Hid (Below w.heap.size w ((V).setRow (s + 1 + 1) (a : Atr).ar)) := HBP.out.grown (grown_setRow' _ _ _) HBP.out.size (fun k hk => by cases hk; have := HS.out; omega)
    exact bodyPost_ret (results_at2 rfl _ _ (s + 1 + 1) a (.bool false) rfl rfl HF.out) rfl ⟨by
      unfold RTPost
      rw [HQF.out]
      exact ⟨_, rfl⟩, HBF.out⟩
  have z1 : ((v.size : Int) % 12 != 0) = false := by rw [bne_eq_false_iff_eq]; omega
  have z1' : ((v.size : Int) % 12 == 0) = true := beq_iff_eq.2 (by omega)
  have z2 : ((v.size : Int).tmod 12 != 0) = false := by rw [Int.tmod_eq_emod_of_nonneg (by omega)]; exact z1
  have z2' : ((v.size : Int).tmod 12 == 0) = true := by rw [Int.tmod_eq_emod_of_nonneg (by omega)]; exact z1'
  by_cases h0 : v.size = 0
  case pos =>
    have HQF : Hid ((tab 32 v four a.c).2 = false) := t32_bad four a.c (Or.inl h0)
    generalize tab 32 v four a.c = RES at HQF ⊢
    have HN0 : Hid (∀ b e w', NumPost b 4 v e w' → e = .returned (.tuple #[.slice none 0 0, .bool false])) := fun b e w' h => by unfold NumPost at h; rw [if_pos (Or.inl h0)] at h; exact h
    clear h0 h12
    go_enter Tryz.func92, Tryz.ntmps92
    go_upto_region 1 with fail
    refine wp_name fun V hV => ?_
    obtain ⟨s, hs⟩ : ∃ s, s = w.heap.size := ⟨_, rfl⟩
    have HC : Hid (CellsAt V s a.ar 40) := by rw [hV, hs]; exact ((CellsAt.new _ _ _).alloc _).alloc _
    have HR : Hid (CellsAt V (s + 1) #[.int .u8 f.toNat, .int .u8 32, .string v] 32) := by rw [hV, hs]; exact new2 _ _ _ _ _
    have HZ : Hid (CellsAt V (s + 1 + 1) noAtr.ar 40) := by rw [hV, hs]; exact new3 _ _ _ _ _
    have HB : Hid (Below w.heap.size w V) := by rw [hV]; exact below3 _ _ _ _
    have HS : Hid (s = w.heap.size) := hs
    rw [← hs] at hbs ⊢
    clear hV hs ha
    obtain ⟨r0, r1, r2⟩ := CellsAt.c3 HR.out
    go_wp2_with fail
    refine (HNU.out _).mono ?_
    rintro e w1 ⟨hpost, hb⟩
    obtain rfl := HN0.out _ _ _ hpost
    have HC1 : Hid (CellsAt w1 s a.ar 40) := HC.out.below hb HC.out.lt
    have HR1 : Hid (CellsAt w1 (s + 1) #[.int .u8 f.toNat, .int .u8 32, .string v] 32) := HR.out.below hb HR.out.lt
    have HZ1 : Hid (CellsAt w1 (s + 1 + 1) noAtr.ar 40) := HZ.out.below hb HZ.out.lt
    have HB1 : Hid (Below w.heap.size w w1) := HB.out.trans (hb.mono HB.out.size)
    obtain ⟨p0, p1, p2⟩ := CellsAt.c3 HR1.out
    clear hb hpost
    have HP := HC1
    have HQ := HZ1
    have HBP := HB1
    go_wp2_with (with_reducible show wpList _ _ _ (_ :: _) _ _; first | refine wpList_load_attrs rfl (.tmp 2) rfl s rfl a HP.out ?_ | refine wpList_store_attrs rfl (.tmp 4) (.tmp 32) rfl (s + 1 + 1) rfl a rfl noAtr HQ.out ?_)
    have HF : Hid (CellsAt ((w1).setRow (s + 1 + 1) (a : Atr).ar) (s + 1 + 1) (a : Atr).ar 40) := HQ.out.setRow' _
    have HBF : Hid (Below w.heap.size w ((w1).setRow (s + 1 + 1) (a : Atr).ar)) := HBP.out.grown (grown_setRow' _ _ _) HBP.out.size (fun k hk => by cases hk; have := HS.out; omega)
    exact bodyPost_ret (results_at2 rfl _ _ (s + 1 + 1) a (.bool false) rfl rfl HF.out) rfl ⟨by
      unfold RTPost
      rw [HQF.out]
      exact ⟨_, rfl⟩, HBF.out⟩
  have HN1 : Hid (∀ b e w', NumPost b 4 v e w' → ∃ v2, e = .returned (.tuple #[v2, .bool true]) ∧ OwnL w' b 57 1 x1 v2 (asN 4 (v.size / 4) v)) := fun b e w' h => by unfold NumPost at h; rw [if_neg (by omega)] at h; exact h
  obtain ⟨m, hm⟩ : ∃ m, m = v.size / 12 := ⟨_, rfl⟩
  have hm3 : v.size / 4 = 3 * m := by omega
  rw [hm3] at HN1
  obtain ⟨l, hl⟩ : ∃ l, l = asN 4 (3 * m) v := ⟨_, rfl⟩
  obtain ⟨L, hL⟩ : ∃ L, L = insAll ltL [] (oneN 12 lg12 m v) := ⟨_, rfl⟩
  have hln : l.length = 3 * m := by rw [hl, asN_len]
  have hon : (oneN 12 lg12 m v).length = m := oneN_len _ _ _ _
  have hll : l.length ≤ 1048576 := by omega
  have hLL : L.length ≤ 1048576 := by have h := insAll_len (lt := ltL) (oneN 12 lg12 m v) []; rw [hL]; simp at h; omega
  have HLA : Hid (∀ (A : Option Addr) (n c : Nat) (W : World), n = l.length → Rd W A 1 (l.map x1) → n ≤ c → c ≤ maxLen → Calls Tryz.prog 122 #[.slice A n c] W fun e w' => (∃ v, e = .returned v ∧ OwnL w' W.heap.size 59 3 Lg.cs v L) ∧ Below W.heap.size W w') := fun A n c W hn h1 h2 h3 => by
    subst hn
    rw [hL]
    exact larges_any A l (oneN 12 lg12 m v) c W h1 h2 (by unfold maxLen at h3; omega) hll (by omega) (fun k x hx => by rw [hl]; exact lg_get m v k x hx) (fun n hn => by rw [hl] at hn; exact asN_fit v _ n hn)
  have HQL : Hid (64 < L.length → (tab 32 v four a.c).2 = false) := fun h => t32_long four a.c (by omega) (by rw [← hm, ← hL]; exact h)
  have HQK : Hid (¬ 64 < L.length → tab 32 v four a.c = ({ a.c with larges := L }, true)) := fun h => by rw [hL, hm]; exact t32_ok four a.c (by omega) (by rw [← hm, ← hL]; exact h)
  rw [← hl] at HN1
  generalize tab 32 v four a.c = RES at HQL HQK ⊢
  have HFT : Hid (∀ x ∈ L, x.g < 4294967296 ∧ x.a < 4294967296 ∧ x.b < 4294967296) := fun x hx => by
    rw [hL, insAll_mem] at hx
    rcases hx with hx | hx
    · cases hx
    · exact oneN_all (p := fun x : Lg => x.g < 4294967296 ∧ x.a < 4294967296 ∧ x.b < 4294967296) (fun s => ⟨hd_u32 _, hd_u32 _, hd_u32 _⟩) _ _ x hx
  clear h0 h12 hl hL hln hon hm hm3
  go_enter Tryz.func92, Tryz.ntmps92
  go_upto_region 1 with fail
  refine wp_name fun V hV => ?_
  obtain ⟨s, hs⟩ : ∃ s, s = w.heap.size := ⟨_, rfl⟩
  have HC : Hid (CellsAt V s a.ar 40) := by rw [hV, hs]; exact ((CellsAt.new _ _ _).alloc _).alloc _
  have HR : Hid (CellsAt V (s + 1) #[.int .u8 f.toNat, .int .u8 32, .string v] 32) := by rw [hV, hs]; exact new2 _ _ _ _ _
  have HZ : Hid (CellsAt V (s + 1 + 1) noAtr.ar 40) := by rw [hV, hs]; exact new3 _ _ _ _ _
  have HB : Hid (Below w.heap.size w V) := by rw [hV]; exact below3 _ _ _ _
  have HS : Hid (s = w.heap.size) := hs
  rw [← hs] at hbs ⊢
  clear hV hs ha
  obtain ⟨r0, r1, r2⟩ := CellsAt.c3 HR.out
  go_wp2_with fail
  refine (HNU.out _).mono ?_
  rintro e w1 ⟨hpost, hb⟩
  have HC1 : Hid (CellsAt w1 s a.ar 40) := HC.out.below hb HC.out.lt
  have HR1 : Hid (CellsAt w1 (s + 1) #[.int .u8 f.toNat, .int .u8 32, .string v] 32) := HR.out.below hb HR.out.lt
  have HZ1 : Hid (CellsAt w1 (s + 1 + 1) noAtr.ar 40) := HZ.out.below hb HZ.out.lt
  have HB1 : Hid (Below w.heap.size w w1) := HB.out.trans (hb.mono HB.out.size)
  obtain ⟨p0, p1, p2⟩ := CellsAt.c3 HR1.out
  obtain ⟨v2, rfl, ho⟩ := HN1.out _ _ _ hpost
  obtain ⟨A1, c1, rfl⟩ := ho.form
  obtain ⟨hr1, _, hc1, hm1⟩ := rd_of x1_len ho
  have HRD1 := Lib.hid hr1
  have hb1 := Lib.hid hb
  clear hb hpost ho hr1
  go_wp2_with fail
  refine (HLA.out A1 _ c1 _ rfl HRD1.out hc1 hm1).mono ?_
  rintro e w2 ⟨⟨v3, rfl, ho⟩, hb⟩
  obtain ⟨A2, c2, rfl⟩ := ho.form
  have HC2 : Hid (CellsAt w2 s a.ar 40) := HC1.out.below hb HC1.out.lt
  have HR2 : Hid (CellsAt w2 (s + 1) #[.int .u8 f.toNat, .int .u8 32, .string v] 32) := HR1.out.below hb HR1.out.lt
  have HZ2 : Hid (CellsAt w2 (s + 1 + 1) noAtr.ar 40) := HZ1.out.below hb HZ1.out.lt
  have HB2 : Hid (Below w.heap.size w w2) := HB1.out.trans (hb.mono HB1.out.size)
  obtain ⟨p0, p1, p2⟩ := CellsAt.c3 HR2.out
  have HO2 : Hid (OwnL w2 (s + 1 + 1 + 1) 59 3 Lg.cs (.slice A2 L.length c2) L) := OwnM.lower ho (Nat.le_trans HZ.out.lt hb1.out.size)
  clear hb ho
  have k12 := (atr_cells HC2.out).2.2.2.2.2.2.2.2.2.2.2.2.1
  have f12 := HC2.out.unfrozen 12
  have HGP : Hid (w2.grownBy (w2.setCell ⟨s, 12, none⟩ (.slice A2 L.length c2)) (some s)) := grown_setCell w2 ⟨s, 12, none⟩ (.slice A2 L.length c2)
  have HP : Hid (CellsAt (w2.setCell ⟨s, 12, none⟩ (.slice A2 L.length c2)) s ({ a with lA := A2, larges := L, lC := c2 } : Atr).ar 40) := HC2.out.setAt 12 _
  have HQ : Hid (CellsAt (w2.setCell ⟨s, 12, none⟩ (.slice A2 L.length c2)) (s + 1 + 1) noAtr.ar 40) := HZ2.out.row HGP.out (by omega)
  have HBP : Hid (Below w.heap.size w (w2.setCell ⟨s, 12, none⟩ (.slice A2 L.length c2))) := HB2.out.grown HGP.out HB2.out.size (fun k hk => by cases hk; exact Nat.le_of_eq HS.out.symm)
  go_upto_region 20 with fail
  refine wp_region_held_drew (S := fun w' => CellsAt w' s ({ a with lA := A2, larges := L, lC := c2 } : Atr).ar 40) (by kernel_rfl) (HP.out.drew 1) (fun hHeld => ?_)
  refine wpAnyH_take (i := 0) (oi := { dst := some 69, op := Op.load 40 (Operand.tmp 2), type := 40, pos := "ref.go:353", after := #[], guard := none }) (v := ({ a with lA := A2, larges := L, lC := c2 } : Atr).v) rfl (by kernel_rfl) (by kernel_rfl) (by kernel_rfl) (fun _ _ _ h => h) (Or.inl ⟨by rfl, fun w hSw => exec_load_attrs (.tmp 2) rfl s rfl _ w hSw⟩) hHeld ?_
  try simp only [Act.put, List.setIfInBounds_toArray, List.set_cons_zero, List.set_cons_succ]
  refine wpAnyH_take (i := 1) (oi := { dst := some 70, op := Op.fieldAddr 40 (Operand.tmp 2) 12, type := 0, pos := "ref.go:353", after := #[], guard := none }) (v := ?_) rfl (by kernel_rfl) (by kernel_rfl) (by kernel_rfl) (fun _ _ _ h => h) (Or.inl ⟨by rfl, ?_⟩) hHeld ?_
  rotate_left
  · intro w hSw
    clear hSw
    go_simp
    try with_reducible rfl
  try simp only [Act.put, List.setIfInBounds_toArray, List.set_cons_zero, List.set_cons_succ]
  refine wpAnyH_take (i := 2) (oi := { dst := some 71, op := Op.load 38 (Operand.tmp 70), type := 38, pos := "ref.go:353", after := #[{ on := 1, ground := Ground.data }], guard := none }) (v := ?_) rfl (by kernel_rfl) (by kernel_rfl) (by kernel_rfl) (fun _ _ _ h => h) (Or.inl ⟨by rfl, ?_⟩) hHeld ?_
  rotate_left
  · intro w hSw
    have e1 := (atr_cells hSw).2.2.2.2.2.2.2.2.2.2.2.2.1
    clear hSw
    go_simp
    try with_reducible rfl
  try simp only [Act.put, List.setIfInBounds_toArray, List.set_cons_zero, List.set_cons_succ]
  refine wpAnyH_take (i := 3) (oi := { dst := some 72, op := Op.call { callee := Callee.builtin Builtin.len, args := #[Operand.tmp 71], argTypes := #[38] }, type := 3, pos := "ref.go:353", after := #[{ on := 2, ground := Ground.data }], guard := none }) (v := ?_) rfl (by kernel_rfl) (by kernel_rfl) (by kernel_rfl) (fun _ _ _ h => h) (Or.inl ⟨by rfl, ?_⟩) hHeld ?_
  rotate_left
  · intro w hSw
    clear hSw
    go_simp
    try with_reducible rfl
  try simp only [Act.put, List.setIfInBounds_toArray, List.set_cons_zero, List.set_cons_succ]
  refine wpAnyH_take (i := 4) (oi := { dst := some 73, op := Op.binOp BinOp.leq 3 (Operand.tmp 72) (Operand.const (Value.int IntKind.i64 64)) 3, type := 4, pos := "ref.go:353", after := #[{ on := 3, ground := Ground.data }, { on := 5, ground := Ground.gcOnly Departure.lateStores }], guard := none }) (v := ?_) rfl (by kernel_rfl) (by kernel_rfl) (by kernel_rfl) (fun _ _ _ h => h) (Or.inl ⟨by rfl, ?_⟩) hHeld ?_
  rotate_left
  · intro w hSw
    clear hSw
    go_simp
    try with_reducible rfl
  try simp only [Act.put, List.setIfInBounds_toArray, List.set_cons_zero, List.set_cons_succ]
  refine wpAnyH_ready (rs := [5]) (by kernel_rfl) (by simp) ?_
  refine AllReadyH.cons (o := { dst := none, op := Op.store 40 (Operand.tmp 4) (Operand.tmp 69), type := 0, pos := "ref.go:353", after := #[{ on := 0, ground := Ground.data }, { on := 0, ground := Ground.phase }, { on := 1, ground := Ground.textOnly Departure.lateStores }, { on := 2, ground := Ground.textOnly Departure.lateStores }, { on := 3, ground := Ground.textOnly Departure.lateStoresUnsure }, { on := 4, ground := Ground.textOnly Departure.lateStores }], guard := none }) rfl (fun K hK => ?_) AllReadyH.nil
  rw [if_pos (by kernel_rfl)]
  refine wp_store_row 40 (.tmp 4) (.tmp 69) rfl (s + 1 + 1) ({ a with lA := A2, larges := L, lC := c2 } : Atr).ar rfl rfl 40 noAtr.ar (HQ.out.drew 1) (by rw [attrs_size]; rfl) rfl (attrs_ones _) ?_
  refine hK.out _ _ ((setRow_other _ _ _ _ (by omega)).trans hHeld) (fun hHeld => ?_)
  clear hK K
  try simp only [Act.put, List.setIfInBounds_toArray, List.set_cons_zero, List.set_cons_succ]
  refine wpAnyH_take (i := 6) (oi := { dst := some 5, op := Op.assign (Operand.tmp 73), type := 4, pos := "ref.go:353", after := #[{ on := 4, ground := Ground.data }, { on := 5, ground := Ground.chain }, { on := 0, ground := Ground.phase }, { on := 1, ground := Ground.phase }, { on := 2, ground := Ground.phase }, { on := 3, ground := Ground.phase }, { on := 4, ground := Ground.phase }, { on := 5, ground := Ground.phase }], guard := none }) (v := ?_) rfl (by kernel_rfl) (by kernel_rfl) (by kernel_rfl) (fun _ _ _ h => h) (Or.inl ⟨by rfl, ?_⟩) hHeld ?_
  rotate_left
  · intro w hSw
    clear hSw
    go_simp
    try with_reducible rfl
  try simp only [Act.put, List.setIfInBounds_toArray, List.set_cons_zero, List.set_cons_succ]
  refine wpAnyH_done (by kernel_rfl) ?_ _
  have HF : Hid (CellsAt ((w2.setCell ⟨s, 12, none⟩ (.slice A2 L.length c2)).drew.setRow (s + 1 + 1) ({ a with lA := A2, larges := L, lC := c2 } : Atr).ar) (s + 1 + 1) ({ a with lA := A2, larges := L, lC := c2 } : Atr).ar 40) := (HQ.out.drew 1).setRow' _
  have HBF : Hid (Below w.heap.size w ((w2.setCell ⟨s, 12, none⟩ (.slice A2 L.length c2)).drew.setRow (s + 1 + 1) ({ a with lA := A2, larges := L, lC := c2 } : Atr).ar)) := (below_drewN HBP.out 1).grown (grown_setRow' _ _ _) (below_drewN HBP.out 1).size (fun k hk => by cases hk; have := HS.out; omega)
  have HEX : Hid (OwnL ((w2.setCell ⟨s, 12, none⟩ (.slice A2 L.length c2)).drew.setRow (s + 1 + 1) ({ a with lA := A2, larges := L, lC := c2 } : Atr).ar) base 59 3 Lg.cs (.slice A2 L.length c2) L) := OwnM.lower (OwnL.keep (w := w2) HO2.out (fun k h1 _ => (setRow_other _ _ k _ (by omega)).trans (Below.heap_setCell w2 _ _ k (by show k ≠ s; omega)))) (by omega)
  go_wp2_with fail
  exact bodyPost_ret (results_at2 rfl _ _ (s + 1 + 1) { a with lA := A2, larges := L, lC := c2 } (.bool (decide ((L.length : Int) ≤ 64))) rfl rfl HF.out) rfl ⟨by
    by_cases h64 : 64 < L.length
    · unfold RTPost
      rw [HQL.out h64, decide_eq_false (by omega)]
      exact ⟨_, rfl⟩
    · rw [HQK.out h64, decide_eq_true (by omega)]
      exact ⟨_, rfl, { AtO.below HAT.out HBF.out with larges := HEX.out, lfit := HFT.out }, rfl⟩, HBF.out⟩
end Go.Proofs.YtkcojblflebomaaGreat
