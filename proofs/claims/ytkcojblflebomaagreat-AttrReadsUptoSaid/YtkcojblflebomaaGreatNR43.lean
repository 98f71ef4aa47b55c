/-
  Several texts in one.
-/
import Derived.Test.YtkcojblflebomaaGreatNR42
set_option linter.unusedVariables false
set_option linter.unusedSimpArgs false
namespace Go.Proofs.YtkcojblflebomaaGreat
open Go.RowKit Go.MapKept Go.Shelf
open Go.Lib hiding intOf
open Go.Sort hiding Below

theorem exec_load_attrs {op : Oper} {a : Act} (x : Operand) (ho : op.op = .load 40 x) (b : Nat) (hx : a.eval x = .pointer (some ⟨b, 0, none⟩)) (p : Atr) (w : World) (hc : CellsAt w b p.ar 40) :
    (execOp a.eval op).run Tryz.prog w = .ok (.value p.v) w := by
  obtain ⟨fs, hu⟩ := attrs_under
  unfold execOp
  simp only [ho, hx, Instr.loadAt, Instr.sureAddr, Sem.run_bind, Sem.run_pure, Result.andThen_ok, run_loadVar_mid w b 0 _ p.ar.toList _ hc.range hu rfl (by rw [attrs_size]; rfl)]
  rfl
set_option maxRecDepth 100000 in
set_option maxHeartbeats 8000000 in
theorem rlist_16 (a : Atr) (f : UInt8) (v : ByteArray) (four : Bool) (w : World) (base : Nat) (hbs : base ≤ w.heap.size) (ha : AtO w base a) (hv : v.size ≤ 1048576) :
    Calls Tryz.prog 92 #[.agg a.ar, .agg #[.int .u8 f.toNat, .int .u8 16, .string v]] w fun e w' => RTPost base (tab 16 v four a.c) w' e ∧ Below w.heap.size w w' := by
  have HAT := Lib.hid ha
  have HNU : Hid (∀ W, Calls Tryz.prog 119 #[.string v, .int .i64 8] W fun e w' => NumPost W.heap.size 8 v e w' ∧ Below W.heap.size W w') := fun W => numbers_8 v W hv
  by_cases h0 : v.size = 0 ∨ v.size % 8 ≠ 0
  case pos =>
    have HQF : Hid ((tab 16 v four a.c).2 = false) := t16_bad four a.c h0
    generalize tab 16 v four a.c = RES at HQF ⊢
    have HN0 : Hid (∀ b e w', NumPost b 8 v e w' → e = .returned (.tuple #[.slice none 0 0, .bool false])) := fun b e w' h => by unfold NumPost at h; rw [if_pos h0] at h; exact h
    clear h0
    go_enter Tryz.func92, Tryz.ntmps92
    go_upto_region 1 with fail
    refine wp_name fun V hV => ?_
    obtain ⟨s, hs⟩ : ∃ s, s = w.heap.size := ⟨_, rfl⟩
    have HC : Hid (CellsAt V s a.ar 40) := by rw [hV, hs]; exact ((CellsAt.new _ _ _).alloc _).alloc _
    have HR : Hid (CellsAt V (s + 1) #[.int .u8 f.toNat, .int .u8 16, .string v] 32) := by rw [hV, hs]; exact new2 _ _ _ _ _
    have HZ : Hid (CellsAt V (s + 1 + 1) noAtr.ar 40) := by rw [hV, hs]; exact new3 _ _ _ _ _
    have HB : Hid (Below w.heap.size w V) := by rw [hV]; exact below3 _ _ _ _
    have HS : Hid (s = w.heap.size) := hs
    rw [← hs] at hbs ⊢
    clear hV hs ha
    obtain ⟨r0, r1, r2⟩ := CellsAt.c3 HR.out
    go_wp2_with fail
    refine (HNU.out _).mono ?_
    rintro e w1 ⟨hpost, hb⟩
    obtain rfl := HN0.out _ _ _ hpost
    have HC1 : Hid (CellsAt w1 s a.ar 40) := HC.out.below hb HC.out.lt
    have HR1 : Hid (CellsAt w1 (s + 1) #[.int .u8 f.toNat, .int .u8 16, .string v] 32) := HR.out.below hb HR.out.lt
    have HZ1 : Hid (CellsAt w1 (s + 1 + 1) noAtr.ar 40) := HZ.out.below hb HZ.out.lt
    have HB1 : Hid (Below w.heap.size w w1) := HB.out.trans (hb.mono HB.out.size)
    obtain ⟨p0, p1, p2⟩ := CellsAt.c3 HR1.out
    clear hb hpost
    have HP := HC1
    have HQ := HZ1
    have HBP := HB1
    go_wp2_with (with_reducible show wpList _ _ _ (_ :: _) _ _; first | refine wpList_load_attrs rfl (.tmp 2) rfl s rfl a HP.out ?_ | refine wpList_store_attrs rfl (.tmp 4) (.tmp 32) rfl (s + 1 + 1) rfl a rfl noAtr HQ.out ?_)
    have HF : Hid (CellsAt ((w1).setRow (s + 1 + 1) (a : Atr).ar) (s + 1 + 1) (a : Atr).ar 40) := HQ.out.setRow' _
    have HBF : Hid (Below w.heap.size w ((w1).setRow (s + 1 + 1) (a : Atr).ar)) := HBP.out.grown (grown_setRow' _ _ _) HBP.out.size (fun k hk => by cases hk; have := HS.out; omega)
    exact bodyPost_ret (results_at2 rfl _ _ (s + 1 + 1) a (.bool false) rfl rfl HF.out) rfl ⟨by
      unfold RTPost
      rw [HQF.out]
      exact ⟨_, rfl⟩, HBF.out⟩
  have HN1 : Hid (∀ b e w', NumPost b 8 v e w' → ∃ v2, e = .returned (.tuple #[v2, .bool true]) ∧ OwnL w' b 57 1 x1 v2 (asN 8 (v.size / 8) v)) := fun b e w' h => by unfold NumPost at h; rw [if_neg h0] at h; exact h
  obtain ⟨l, hl⟩ : ∃ l, l = asN 8 (v.size / 8) v := ⟨_, rfl⟩
  obtain ⟨L, hL⟩ : ∃ L, L = insAll ltN [] l := ⟨_, rfl⟩
  have hll : l.length ≤ 1048576 := by rw [hl, asN_len]; have := Nat.div_le_self v.size 8; omega
  have hLL : L.length ≤ 1048576 := by have h := insAll_len (lt := ltN) l []; rw [hL]; simp at h; omega
  have HSO : Hid (∀ (A : Option Addr) (n c : Nat) (W : World), n = l.length → Rd W A 1 (l.map x1) → n ≤ c → c ≤ maxLen → Calls Tryz.prog 121 #[.slice A n c] W fun e w' => (∃ v, e = .returned v ∧ OwnL w' W.heap.size 57 1 x1 v L) ∧ Below W.heap.size W w') := fun A n c W hn h1 h2 h3 => by
    subst hn
    rw [hL]
    exact sorted_any A l c W h1 h2 (by unfold maxLen at h3; omega) hll
  have HQL : Hid (64 < L.length → (tab 16 v four a.c).2 = false) := fun h => t16_long four a.c h0 (by rw [← hl, ← hL]; exact h)
  have HQK : Hid (¬ 64 < L.length → tab 16 v four a.c = ({ a.c with exts := L }, true)) := fun h => by rw [hL, hl]; exact t16_ok four a.c h0 (by rw [← hl, ← hL]; exact h)
  rw [← hl] at HN1
  generalize tab 16 v four a.c = RES at HQL HQK ⊢
  have HFT : Hid (∀ n ∈ L, n < 18446744073709551616) := fun n hn => by
    rw [hL, insAll_mem] at hn
    rcases hn with hn | hn
    · cases hn
    · rw [hl, asN_one] at hn
      exact oneN_all (p := fun n => n < 18446744073709551616) (fun s => Nat.lt_of_lt_of_le (hd_lt s 8) (by decide)) _ _ n hn
  clear h0 hl hL
  go_enter Tryz.func92, Tryz.ntmps92
  go_upto_region 1 with fail
  refine wp_name fun V hV => ?_
  obtain ⟨s, hs⟩ : ∃ s, s = w.heap.size := ⟨_, rfl⟩
  have HC : Hid (CellsAt V s a.ar 40) := by rw [hV, hs]; exact ((CellsAt.new _ _ _).alloc _).alloc _
  have HR : Hid (CellsAt V (s + 1) #[.int .u8 f.toNat, .int .u8 16, .string v] 32) := by rw [hV, hs]; exact new2 _ _ _ _ _
  have HZ : Hid (CellsAt V (s + 1 + 1) noAtr.ar 40) := by rw [hV, hs]; exact new3 _ _ _ _ _
  have HB : Hid (Below w.heap.size w V) := by rw [hV]; exact below3 _ _ _ _
  have HS : Hid (s = w.heap.size) := hs
  rw [← hs] at hbs ⊢
  clear hV hs ha
  obtain ⟨r0, r1, r2⟩ := CellsAt.c3 HR.out
  go_wp2_with fail
  refine (HNU.out _).mono ?_
  rintro e w1 ⟨hpost, hb⟩
  have HC1 : Hid (CellsAt w1 s a.ar 40) := HC.out.below hb HC.out.lt
  have HR1 : Hid (CellsAt w1 (s + 1) #[.int .u8 f.toNat, .int .u8 16, .string v] 32) := HR.out.below hb HR.out.lt
  have HZ1 : Hid (CellsAt w1 (s + 1 + 1) noAtr.ar 40) := HZ.out.below hb HZ.out.lt
  have HB1 : Hid (Below w.heap.size w w1) := HB.out.trans (hb.mono HB.out.size)
  obtain ⟨p0, p1, p2⟩ := CellsAt.c3 HR1.out
  obtain ⟨v2, rfl, ho⟩ := HN1.out _ _ _ hpost
  obtain ⟨A1, c1, rfl⟩ := ho.form
  obtain ⟨hr1, _, hc1, hm1⟩ := rd_of x1_len ho
  have HRD1 := Lib.hid hr1
  have hb1 := Lib.hid hb
  clear hb hpost ho hr1
  go_wp2_with fail
  refine (HSO.out A1 _ c1 _ rfl HRD1.out hc1 hm1).mono ?_
  rintro e w2 ⟨⟨v3, rfl, ho⟩, hb⟩
  obtain ⟨A2, c2, rfl⟩ := ho.form
  have HC2 : Hid (CellsAt w2 s a.ar 40) := HC1.out.below hb HC1.out.lt
  have HR2 : Hid (CellsAt w2 (s + 1) #[.int .u8 f.toNat, .int .u8 16, .string v] 32) := HR1.out.below hb HR1.out.lt
  have HZ2 : Hid (CellsAt w2 (s + 1 + 1) noAtr.ar 40) := HZ1.out.below hb HZ1.out.lt
  have HB2 : Hid (Below w.heap.size w w2) := HB1.out.trans (hb.mono HB1.out.size)
  obtain ⟨p0, p1, p2⟩ := CellsAt.c3 HR2.out
  have HO2 : Hid (OwnL w2 (s + 1 + 1 + 1) 57 1 x1 (.slice A2 L.length c2) L) := OwnM.lower ho (Nat.le_trans HZ.out.lt hb1.out.size)
  clear hb ho
  have k11 := (atr_cells HC2.out).2.2.2.2.2.2.2.2.2.2.2.1
  have f11 := HC2.out.unfrozen 11
  have HGP : Hid (w2.grownBy (w2.setCell ⟨s, 11, none⟩ (.slice A2 L.length c2)) (some s)) := grown_setCell w2 ⟨s, 11, none⟩ (.slice A2 L.length c2)
  have HP : Hid (CellsAt (w2.setCell ⟨s, 11, none⟩ (.slice A2 L.length c2)) s ({ a with xA := A2, exts := L, xC := c2 } : Atr).ar 40) := HC2.out.setAt 11 _
  have HQ : Hid (CellsAt (w2.setCell ⟨s, 11, none⟩ (.slice A2 L.length c2)) (s + 1 + 1) noAtr.ar 40) := HZ2.out.row HGP.out (by omega)
  have HBP : Hid (Below w.heap.size w (w2.setCell ⟨s, 11, none⟩ (.slice A2 L.length c2))) := HB2.out.grown HGP.out HB2.out.size (fun k hk => by cases hk; exact Nat.le_of_eq HS.out.symm)
  go_upto_region 18 with fail
  refine wp_region_held_drew (S := fun w' => CellsAt w' s ({ a with xA := A2, exts := L, xC := c2 } : Atr).ar 40) (by kernel_rfl) (HP.out.drew 1) (fun hHeld => ?_)
  refine wpAnyH_take (i := 0) (oi := { dst := some 61, op := Op.load 40 (Operand.tmp 2), type := 40, pos := "ref.go:350", after := #[], guard := none }) (v := ({ a with xA := A2, exts := L, xC := c2 } : Atr).v) rfl (by kernel_rfl) (by kernel_rfl) (by kernel_rfl) (fun _ _ _ h => h) (Or.inl ⟨by rfl, fun w hSw => exec_load_attrs (.tmp 2) rfl s rfl _ w hSw⟩) hHeld ?_
  try simp only [Act.put, List.setIfInBounds_toArray, List.set_cons_zero, List.set_cons_succ]
  refine wpAnyH_take (i := 1) (oi := { dst := some 62, op := Op.fieldAddr 40 (Operand.tmp 2) 11, type := 0, pos := "ref.go:350", after := #[], guard := none }) (v := ?_) rfl (by kernel_rfl) (by kernel_rfl) (by kernel_rfl) (fun _ _ _ h => h) (Or.inl ⟨by rfl, ?_⟩) hHeld ?_
  rotate_left
  · intro w hSw
    clear hSw
    go_simp
    try with_reducible rfl
  try simp only [Act.put, List.setIfInBounds_toArray, List.set_cons_zero, List.set_cons_succ]
  refine wpAnyH_take (i := 2) (oi := { dst := some 63, op := Op.load 37 (Operand.tmp 62), type := 37, pos := "ref.go:350", after := #[{ on := 1, ground := Ground.data }], guard := none }) (v := ?_) rfl (by kernel_rfl) (by kernel_rfl) (by kernel_rfl) (fun _ _ _ h => h) (Or.inl ⟨by rfl, ?_⟩) hHeld ?_
  rotate_left
  · intro w hSw
    have e1 := (atr_cells hSw).2.2.2.2.2.2.2.2.2.2.2.1
    clear hSw
    go_simp
    try with_reducible rfl
  try simp only [Act.put, List.setIfInBounds_toArray, List.set_cons_zero, List.set_cons_succ]
  refine wpAnyH_take (i := 3) (oi := { dst := some 64, op := Op.call { callee := Callee.builtin Builtin.len, args := #[Operand.tmp 63], argTypes := #[37] }, type := 3, pos := "ref.go:350", after := #[{ on := 2, ground := Ground.data }], guard := none }) (v := ?_) rfl (by kernel_rfl) (by kernel_rfl) (by kernel_rfl) (fun _ _ _ h => h) (Or.inl ⟨by rfl, ?_⟩) hHeld ?_
  rotate_left
  · intro w hSw
    clear hSw
    go_simp
    try with_reducible rfl
  try simp only [Act.put, List.setIfInBounds_toArray, List.set_cons_zero, List.set_cons_succ]
  refine wpAnyH_take (i := 4) (oi := { dst := some 65, op := Op.binOp BinOp.leq 3 (Operand.tmp 64) (Operand.const (Value.int IntKind.i64 64)) 3, type := 4, pos := "ref.go:350", after := #[{ on := 3, ground := Ground.data }, { on := 5, ground := Ground.gcOnly Departure.lateStores }], guard := none }) (v := ?_) rfl (by kernel_rfl) (by kernel_rfl) (by kernel_rfl) (fun _ _ _ h => h) (Or.inl ⟨by rfl, ?_⟩) hHeld ?_
  rotate_left
  · intro w hSw
    clear hSw
    go_simp
    try with_reducible rfl
  try simp only [Act.put, List.setIfInBounds_toArray, List.set_cons_zero, List.set_cons_succ]
  refine wpAnyH_ready (rs := [5]) (by kernel_rfl) (by simp) ?_
  refine AllReadyH.cons (o := { dst := none, op := Op.store 40 (Operand.tmp 4) (Operand.tmp 61), type := 0, pos := "ref.go:350", after := #[{ on := 0, ground := Ground.data }, { on := 0, ground := Ground.phase }, { on := 1, ground := Ground.textOnly Departure.lateStores }, { on := 2, ground := Ground.textOnly Departure.lateStores }, { on := 3, ground := Ground.textOnly Departure.lateStoresUnsure }, { on := 4, ground := Ground.textOnly Departure.lateStores }], guard := none }) rfl (fun K hK => ?_) AllReadyH.nil
  rw [if_pos (by kernel_rfl)]
  refine wp_store_row 40 (.tmp 4) (.tmp 61) rfl (s + 1 + 1) ({ a with xA := A2, exts := L, xC := c2 } : Atr).ar rfl rfl 40 noAtr.ar (HQ.out.drew 1) (by rw [attrs_size]; rfl) rfl (attrs_ones _) ?_
  refine hK.out _ _ ((setRow_other _ _ _ _ (by omega)).trans hHeld) (fun hHeld => ?_)
  clear hK K
  try simp only [Act.put, List.setIfInBounds_toArray, List.set_cons_zero, List.set_cons_succ]
  refine wpAnyH_take (i := 6) (oi := { dst := some 5, op := Op.assign (Operand.tmp 65), type := 4, pos := "ref.go:350", after := #[{ on := 4, ground := Ground.data }, { on := 5, ground := Ground.chain }, { on := 0, ground := Ground.phase }, { on := 1, ground := Ground.phase }, { on := 2, ground := Ground.phase }, { on := 3, ground := Ground.phase }, { on := 4, ground := Ground.phase }, { on := 5, ground := Ground.phase }], guard := none }) (v := ?_) rfl (by kernel_rfl) (by kernel_rfl) (by kernel_rfl) (fun _ _ _ h => h) (Or.inl ⟨by rfl, ?_⟩) hHeld ?_
  rotate_left
  · intro w hSw
    clear hSw
    go_simp
    try with_reducible rfl
  try simp only [Act.put, List.setIfInBounds_toArray, List.set_cons_zero, List.set_cons_succ]
  refine wpAnyH_done (by kernel_rfl) ?_ _
  have HF : Hid (CellsAt ((w2.setCell ⟨s, 11, none⟩ (.slice A2 L.length c2)).drew.setRow (s + 1 + 1) ({ a with xA := A2, exts := L, xC := c2 } : Atr).ar) (s + 1 + 1) ({ a with xA := A2, exts := L, xC := c2 } : Atr).ar 40) := (HQ.out.drew 1).setRow' _
  have HBF : Hid (Below w.heap.size w ((w2.setCell ⟨s, 11, none⟩ (.slice A2 L.length c2)).drew.setRow (s + 1 + 1) ({ a with xA := A2, exts := L, xC := c2 } : Atr).ar)) := (below_drewN HBP.out 1).grown (grown_setRow' _ _ _) (below_drewN HBP.out 1).size (fun k hk => by cases hk; have := HS.out; omega)
  have HEX : Hid (OwnL ((w2.setCell ⟨s, 11, none⟩ (.slice A2 L.length c2)).drew.setRow (s + 1 + 1) ({ a with xA := A2, exts := L, xC := c2 } : Atr).ar) base 57 1 x1 (.slice A2 L.length c2) L) := OwnM.lower (OwnL.keep (w := w2) HO2.out (fun k h1 _ => (setRow_other _ _ k _ (by omega)).trans (Below.heap_setCell w2 _ _ k (by show k ≠ s; omega)))) (by omega)
  go_wp2_with fail
  exact bodyPost_ret (results_at2 rfl _ _ (s + 1 + 1) { a with xA := A2, exts := L, xC := c2 } (.bool (decide ((L.length : Int) ≤ 64))) rfl rfl HF.out) rfl ⟨by
    by_cases h64 : 64 < L.length
    · unfold RTPost
      rw [HQL.out h64, decide_eq_false (by omega)]
      exact ⟨_, rfl⟩
    · rw [HQK.out h64, decide_eq_true (by omega)]
      exact ⟨_, rfl, { AtO.below HAT.out HBF.out with exts := HEX.out, xfit := HFT.out }, rfl⟩, HBF.out⟩
set_option maxRecDepth 100000 in
set_option maxHeartbeats 8000000 in
theorem rlist_8 (a : Atr) (f : UInt8) (v : ByteArray) (four : Bool) (w : World) (base : Nat) (hbs : base ≤ w.heap.size) (ha : AtO w base a) (hv : v.size ≤ 1048576) :
    Calls Tryz.prog 92 #[.agg a.ar, .agg #[.int .u8 f.toNat, .int .u8 8, .string v]] w fun e w' => RTPost base (tab 8 v four a.c) w' e ∧ Below w.heap.size w w' := by
  have HAT := Lib.hid ha
  have HNU : Hid (∀ W, Calls Tryz.prog 119 #[.string v, .int .i64 4] W fun e w' => NumPost W.heap.size 4 v e w' ∧ Below W.heap.size W w') := fun W => numbers_4 v W hv
  by_cases h0 : v.size = 0 ∨ v.size % 4 ≠ 0
  case pos =>
    have HQF : Hid ((tab 8 v four a.c).2 = false) := t8_bad four a.c h0
    generalize tab 8 v four a.c = RES at HQF ⊢
    have HN0 : Hid (∀ b e w', NumPost b 4 v e w' → e = .returned (.tuple #[.slice none 0 0, .bool false])) := fun b e w' h => by unfold NumPost at h; rw [if_pos h0] at h; exact h
    clear h0
    go_enter Tryz.func92, Tryz.ntmps92
    go_upto_region 1 with fail
    refine wp_name fun V hV => ?_
    obtain ⟨s, hs⟩ : ∃ s, s = w.heap.size := ⟨_, rfl⟩
    have HC : Hid (CellsAt V s a.ar 40) := by rw [hV, hs]; exact ((CellsAt.new _ _ _).alloc _).alloc _
    have HR : Hid (CellsAt V (s + 1) #[.int .u8 f.toNat, .int .u8 8, .string v] 32) := by rw [hV, hs]; exact new2 _ _ _ _ _
    have HZ : Hid (CellsAt V (s + 1 + 1) noAtr.ar 40) := by rw [hV, hs]; exact new3 _ _ _ _ _
    have HB : Hid (Below w.heap.size w V) := by rw [hV]; exact below3 _ _ _ _
    have HS : Hid (s = w.heap.size) := hs
    rw [← hs] at hbs ⊢
    clear hV hs ha
    obtain ⟨r0, r1, r2⟩ := CellsAt.c3 HR.out
    go_wp2_with fail
    refine (HNU.out _).mono ?_
    rintro e w1 ⟨hpost, hb⟩
    obtain rfl := HN0.out _ _ _ hpost
    have HC1 : Hid (CellsAt w1 s a.ar 40) := HC.out.below hb HC.out.lt
    have HR1 : Hid (CellsAt w1 (s + 1) #[.int .u8 f.toNat, .int .u8 8, .string v] 32) := HR.out.below hb HR.out.lt
    have HZ1 : Hid (CellsAt w1 (s + 1 + 1) noAtr.ar 40) := HZ.out.below hb HZ.out.lt
    have HB1 : Hid (Below w.heap.size w w1) := HB.out.trans (hb.mono HB.out.size)
    obtain ⟨p0, p1, p2⟩ := CellsAt.c3 HR1.out
    clear hb hpost
    have HP := HC1
    have HQ := HZ1
    have HBP := HB1
    go_wp2_with (with_reducible show wpList _ _ _ (_ :: _) _ _; first | refine wpList_load_attrs rfl (.tmp 2) rfl s rfl a HP.out ?_ | refine wpList_store_attrs rfl (.tmp 4) (.tmp 32) rfl (s + 1 + 1) rfl a rfl noAtr HQ.out ?_)
    have HF : Hid (CellsAt ((w1).setRow (s + 1 + 1) (a : Atr).ar) (s + 1 + 1) (a : Atr).ar 40) := HQ.out.setRow' _
    have HBF : Hid (Below w.heap.size w ((w1).setRow (s + 1 + 1) (a : Atr).ar)) := HBP.out.grown (grown_setRow' _ _ _) HBP.out.size (fun k hk => by cases hk; have := HS.out; omega)
    exact bodyPost_ret (results_at2 rfl _ _ (s + 1 + 1) a (.bool false) rfl rfl HF.out) rfl ⟨by
      unfold RTPost
      rw [HQF.out]
      exact ⟨_, rfl⟩, HBF.out⟩
  have HN1 : Hid (∀ b e w', NumPost b 4 v e w' → ∃ v2, e = .returned (.tuple #[v2, .bool true]) ∧ OwnL w' b 57 1 x1 v2 (asN 4 (v.size / 4) v)) := fun b e w' h => by unfold NumPost at h; rw [if_neg h0] at h; exact h
  obtain ⟨l, hl⟩ : ∃ l, l = asN 4 (v.size / 4) v := ⟨_, rfl⟩
  obtain ⟨L, hL⟩ : ∃ L, L = insAll ltN [] l := ⟨_, rfl⟩
  have hll : l.length ≤ 1048576 := by rw [hl, asN_len]; have := Nat.div_le_self v.size 4; omega
  have hLL : L.length ≤ 1048576 := by have h := insAll_len (lt := ltN) l []; rw [hL]; simp at h; omega
  have HSO : Hid (∀ (A : Option Addr) (n c : Nat) (W : World), n = l.length → Rd W A 1 (l.map x1) → n ≤ c → c ≤ maxLen → Calls Tryz.prog 121 #[.slice A n c] W fun e w' => (∃ v, e = .returned v ∧ OwnL w' W.heap.size 57 1 x1 v L) ∧ Below W.heap.size W w') := fun A n c W hn h1 h2 h3 => by
    subst hn
    rw [hL]
    exact sorted_any A l c W h1 h2 (by unfold maxLen at h3; omega) hll
  have HQL : Hid (64 < L.length → (tab 8 v four a.c).2 = false) := fun h => t8_long four a.c h0 (by rw [← hl, ← hL]; exact h)
  have HQK : Hid (¬ 64 < L.length → tab 8 v four a.c = ({ a.c with comms := L }, true)) := fun h => by rw [hL, hl]; exact t8_ok four a.c h0 (by rw [← hl, ← hL]; exact h)
  rw [← hl] at HN1
  generalize tab 8 v four a.c = RES at HQL HQK ⊢
  have HFT : Hid (∀ n ∈ L, n < 4294967296) := fun n hn => by
    rw [hL, insAll_mem] at hn
    rcases hn with hn | hn
    · cases hn
    · rw [hl] at hn
      exact asN_fit v _ n hn
  have HNA : Hid (∀ (A : Option Addr) (n c : Nat) (W : World), n = L.length → Rd W A 1 (L.map x1) → n ≤ c → c ≤ maxLen → Calls Tryz.prog 120 #[.slice A n c] W fun e w' => (∃ v, e = .returned v ∧ OwnL w' W.heap.size 35 1 u1 v L) ∧ Below W.heap.size W w') := fun A n c W hn h1 h2 h3 => by
    subst hn
    exact narrow_any A L c W h1 h2 (by unfold maxLen at h3; omega) hLL HFT.out
  clear h0 hl hL
  go_enter Tryz.func92, Tryz.ntmps92
  go_upto_region 1 with fail
  refine wp_name fun V hV => ?_
  obtain ⟨s, hs⟩ : ∃ s, s = w.heap.size := ⟨_, rfl⟩
  have HC : Hid (CellsAt V s a.ar 40) := by rw [hV, hs]; exact ((CellsAt.new _ _ _).alloc _).alloc _
  have HR : Hid (CellsAt V (s + 1) #[.int .u8 f.toNat, .int .u8 8, .string v] 32) := by rw [hV, hs]; exact new2 _ _ _ _ _
  have HZ : Hid (CellsAt V (s + 1 + 1) noAtr.ar 40) := by rw [hV, hs]; exact new3 _ _ _ _ _
  have HB : Hid (Below w.heap.size w V) := by rw [hV]; exact below3 _ _ _ _
  have HS : Hid (s = w.heap.size) := hs
  rw [← hs] at hbs ⊢
  clear hV hs ha
  obtain ⟨r0, r1, r2⟩ := CellsAt.c3 HR.out
  go_wp2_with fail
  refine (HNU.out _).mono ?_
  rintro e w1 ⟨hpost, hb⟩
  have HC1 : Hid (CellsAt w1 s a.ar 40) := HC.out.below hb HC.out.lt
  have HR1 : Hid (CellsAt w1 (s + 1) #[.int .u8 f.toNat, .int .u8 8, .string v] 32) := HR.out.below hb HR.out.lt
  have HZ1 : Hid (CellsAt w1 (s + 1 + 1) noAtr.ar 40) := HZ.out.below hb HZ.out.lt
  have HB1 : Hid (Below w.heap.size w w1) := HB.out.trans (hb.mono HB.out.size)
  obtain ⟨p0, p1, p2⟩ := CellsAt.c3 HR1.out
  obtain ⟨v2, rfl, ho⟩ := HN1.out _ _ _ hpost
  obtain ⟨A1, c1, rfl⟩ := ho.form
  obtain ⟨hr1, _, hc1, hm1⟩ := rd_of x1_len ho
  have HRD1 := Lib.hid hr1
  have hb1 := Lib.hid hb
  clear hb hpost ho hr1
  go_wp2_with fail
  refine (HSO.out A1 _ c1 _ rfl HRD1.out hc1 hm1).mono ?_
  rintro e w2 ⟨⟨v3, rfl, ho⟩, hb⟩
  obtain ⟨A2, c2, rfl⟩ := ho.form
  have HC2 : Hid (CellsAt w2 s a.ar 40) := HC1.out.below hb HC1.out.lt
  have HR2 : Hid (CellsAt w2 (s + 1) #[.int .u8 f.toNat, .int .u8 8, .string v] 32) := HR1.out.below hb HR1.out.lt
  have HZ2 : Hid (CellsAt w2 (s + 1 + 1) noAtr.ar 40) := HZ1.out.below hb HZ1.out.lt
  have HB2 : Hid (Below w.heap.size w w2) := HB1.out.trans (hb.mono HB1.out.size)
  obtain ⟨p0, p1, p2⟩ := CellsAt.c3 HR2.out
  obtain ⟨hr2, _, hcc2, hm2⟩ := rd_of x1_len ho
  have HRD2 := Lib.hid hr2
  have hb2 := Lib.hid hb
  clear hb ho hr2
  go_wp2_with fail
  refine (HNA.out A2 _ c2 _ rfl HRD2.out hcc2 hm2).mono ?_
  rintro e w3 ⟨⟨v4, rfl, ho⟩, hb⟩
  obtain ⟨A3, c3, rfl⟩ := ho.form
  have HC3 : Hid (CellsAt w3 s a.ar 40) := HC2.out.below hb HC2.out.lt
  have HR3 : Hid (CellsAt w3 (s + 1) #[.int .u8 f.toNat, .int .u8 8, .string v] 32) := HR2.out.below hb HR2.out.lt
  have HZ3 : Hid (CellsAt w3 (s + 1 + 1) noAtr.ar 40) := HZ2.out.below hb HZ2.out.lt
  have HB3 : Hid (Below w.heap.size w w3) := HB2.out.trans (hb.mono HB2.out.size)
  obtain ⟨p0, p1, p2⟩ := CellsAt.c3 HR3.out
  have HO3 : Hid (OwnL w3 (s + 1 + 1 + 1) 35 1 u1 (.slice A3 L.length c3) L) := OwnM.lower ho (Nat.le_trans HZ.out.lt (Nat.le_trans hb1.out.size hb2.out.size))
  clear hb ho
  have k10 := (atr_cells HC3.out).2.2.2.2.2.2.2.2.2.2.1
  have f10 := HC3.out.unfrozen 10
  have HGP : Hid (w3.grownBy (w3.setCell ⟨s, 10, none⟩ (.slice A3 L.length c3)) (some s)) := grown_setCell w3 ⟨s, 10, none⟩ (.slice A3 L.length c3)
  have HP : Hid (CellsAt (w3.setCell ⟨s, 10, none⟩ (.slice A3 L.length c3)) s ({ a with mA := A3, comms := L, mC := c3 } : Atr).ar 40) := HC3.out.setAt 10 _
  have HQ : Hid (CellsAt (w3.setCell ⟨s, 10, none⟩ (.slice A3 L.length c3)) (s + 1 + 1) noAtr.ar 40) := HZ3.out.row HGP.out (by omega)
  have HBP : Hid (Below w.heap.size w (w3.setCell ⟨s, 10, none⟩ (.slice A3 L.length c3))) := HB3.out.grown HGP.out HB3.out.size (fun k hk => by cases hk; exact Nat.le_of_eq HS.out.symm)
  go_upto_region 12 with fail
  refine wp_region_held_drew (S := fun w' => CellsAt w' s ({ a with mA := A3, comms := L, mC := c3 } : Atr).ar 40) (by kernel_rfl) (HP.out.drew 1) (fun hHeld => ?_)
  refine wpAnyH_take (i := 0) (oi := { dst := some 41, op := Op.load 40 (Operand.tmp 2), type := 40, pos := "ref.go:344", after := #[], guard := none }) (v := ({ a with mA := A3, comms := L, mC := c3 } : Atr).v) rfl (by kernel_rfl) (by kernel_rfl) (by kernel_rfl) (fun _ _ _ h => h) (Or.inl ⟨by rfl, fun w hSw => exec_load_attrs (.tmp 2) rfl s rfl _ w hSw⟩) hHeld ?_
  try simp only [Act.put, List.setIfInBounds_toArray, List.set_cons_zero, List.set_cons_succ]
  refine wpAnyH_take (i := 1) (oi := { dst := some 42, op := Op.fieldAddr 40 (Operand.tmp 2) 10, type := 0, pos := "ref.go:344", after := #[], guard := none }) (v := ?_) rfl (by kernel_rfl) (by kernel_rfl) (by kernel_rfl) (fun _ _ _ h => h) (Or.inl ⟨by rfl, ?_⟩) hHeld ?_
  rotate_left
  · intro w hSw
    clear hSw
    go_simp
    try with_reducible rfl
  try simp only [Act.put, List.setIfInBounds_toArray, List.set_cons_zero, List.set_cons_succ]
  refine wpAnyH_take (i := 2) (oi := { dst := some 43, op := Op.load 36 (Operand.tmp 42), type := 36, pos := "ref.go:344", after := #[{ on := 1, ground := Ground.data }], guard := none }) (v := ?_) rfl (by kernel_rfl) (by kernel_rfl) (by kernel_rfl) (fun _ _ _ h => h) (Or.inl ⟨by rfl, ?_⟩) hHeld ?_
  rotate_left
  · intro w hSw
    have e1 := (atr_cells hSw).2.2.2.2.2.2.2.2.2.2.1
    clear hSw
    go_simp
    try with_reducible rfl
  try simp only [Act.put, List.setIfInBounds_toArray, List.set_cons_zero, List.set_cons_succ]
  refine wpAnyH_take (i := 3) (oi := { dst := some 44, op := Op.call { callee := Callee.builtin Builtin.len, args := #[Operand.tmp 43], argTypes := #[36] }, type := 3, pos := "ref.go:344", after := #[{ on := 2, ground := Ground.data }], guard := none }) (v := ?_) rfl (by kernel_rfl) (by kernel_rfl) (by kernel_rfl) (fun _ _ _ h => h) (Or.inl ⟨by rfl, ?_⟩) hHeld ?_
  rotate_left
  · intro w hSw
    clear hSw
    go_simp
    try with_reducible rfl
  try simp only [Act.put, List.setIfInBounds_toArray, List.set_cons_zero, List.set_cons_succ]
  refine wpAnyH_take (i := 4) (oi := { dst := some 45, op := Op.binOp BinOp.leq 3 (Operand.tmp 44) (Operand.const (Value.int IntKind.i64 64)) 3, type := 4, pos := "ref.go:344", after := #[{ on := 3, ground := Ground.data }, { on := 5, ground := Ground.gcOnly Departure.lateStores }], guard := none }) (v := ?_) rfl (by kernel_rfl) (by kernel_rfl) (by kernel_rfl) (fun _ _ _ h => h) (Or.inl ⟨by rfl, ?_⟩) hHeld ?_
  rotate_left
  · intro w hSw
    clear hSw
    go_simp
    try with_reducible rfl
  try simp only [Act.put, List.setIfInBounds_toArray, List.set_cons_zero, List.set_cons_succ]
  refine wpAnyH_ready (rs := [5]) (by kernel_rfl) (by simp) ?_
  refine AllReadyH.cons (o := { dst := none, op := Op.store 40 (Operand.tmp 4) (Operand.tmp 41), type := 0, pos := "ref.go:344", after := #[{ on := 0, ground := Ground.data }, { on := 0, ground := Ground.phase }, { on := 1, ground := Ground.textOnly Departure.lateStores }, { on := 2, ground := Ground.textOnly Departure.lateStores }, { on := 3, ground := Ground.textOnly Departure.lateStoresUnsure }, { on := 4, ground := Ground.textOnly Departure.lateStores }], guard := none }) rfl (fun K hK => ?_) AllReadyH.nil
  rw [if_pos (by kernel_rfl)]
  refine wp_store_row 40 (.tmp 4) (.tmp 41) rfl (s + 1 + 1) ({ a with mA := A3, comms := L, mC := c3 } : Atr).ar rfl rfl 40 noAtr.ar (HQ.out.drew 1) (by rw [attrs_size]; rfl) rfl (attrs_ones _) ?_
  refine hK.out _ _ ((setRow_other _ _ _ _ (by omega)).trans hHeld) (fun hHeld => ?_)
  clear hK K
  try simp only [Act.put, List.setIfInBounds_toArray, List.set_cons_zero, List.set_cons_succ]
  refine wpAnyH_take (i := 6) (oi := { dst := some 5, op := Op.assign (Operand.tmp 45), type := 4, pos := "ref.go:344", after := #[{ on := 4, ground := Ground.data }, { on := 5, ground := Ground.chain }, { on := 0, ground := Ground.phase }, { on := 1, ground := Ground.phase }, { on := 2, ground := Ground.phase }, { on := 3, ground := Ground.phase }, { on := 4, ground := Ground.phase }, { on := 5, ground := Ground.phase }], guard := none }) (v := ?_) rfl (by kernel_rfl) (by kernel_rfl) (by kernel_rfl) (fun _ _ _ h => h) (Or.inl ⟨by rfl, ?_⟩) hHeld ?_
  rotate_left
  · intro w hSw
    clear hSw
    go_simp
    try with_reducible rfl
  try simp only [Act.put, List.setIfInBounds_toArray, List.set_cons_zero, List.set_cons_succ]
  refine wpAnyH_done (by kernel_rfl) ?_ _
  have HF : Hid (CellsAt ((w3.setCell ⟨s, 10, none⟩ (.slice A3 L.length c3)).drew.setRow (s + 1 + 1) ({ a with mA := A3, comms := L, mC := c3 } : Atr).ar) (s + 1 + 1) ({ a with mA := A3, comms := L, mC := c3 } : Atr).ar 40) := (HQ.out.drew 1).setRow' _
  have HBF : Hid (Below w.heap.size w ((w3.setCell ⟨s, 10, none⟩ (.slice A3 L.length c3)).drew.setRow (s + 1 + 1) ({ a with mA := A3, comms := L, mC := c3 } : Atr).ar)) := (below_drewN HBP.out 1).grown (grown_setRow' _ _ _) (below_drewN HBP.out 1).size (fun k hk => by cases hk; have := HS.out; omega)
  have HEX : Hid (OwnL ((w3.setCell ⟨s, 10, none⟩ (.slice A3 L.length c3)).drew.setRow (s + 1 + 1) ({ a with mA := A3, comms := L, mC := c3 } : Atr).ar) base 35 1 u1 (.slice A3 L.length c3) L) := OwnM.lower (OwnL.keep (w := w3) HO3.out (fun k h1 _ => (setRow_other _ _ k _ (by omega)).trans (Below.heap_setCell w3 _ _ k (by show k ≠ s; omega)))) (by omega)
  go_wp2_with fail
  exact bodyPost_ret (results_at2 rfl _ _ (s + 1 + 1) { a with mA := A3, comms := L, mC := c3 } (.bool (decide ((L.length : Int) ≤ 64))) rfl rfl HF.out) rfl ⟨by
    by_cases h64 : 64 < L.length
    · unfold RTPost
      rw [HQL.out h64, decide_eq_false (by omega)]
      exact ⟨_, rfl⟩
    · rw [HQK.out h64, decide_eq_true (by omega)]
      exact ⟨_, rfl, { AtO.below HAT.out HBF.out with comms := HEX.out, mfit := HFT.out }, rfl⟩, HBF.out⟩
set_option maxRecDepth 100000 in
set_option maxHeartbeats 8000000 in
theorem rlist_10 (a : Atr) (f : UInt8) (v : ByteArray) (four : Bool) (w : World) (base : Nat) (hbs : base ≤ w.heap.size) (ha : AtO w base a) (hv : v.size ≤ 1048576) :
    Calls Tryz.prog 92 #[.agg a.ar, .agg #[.int .u8 f.toNat, .int .u8 10, .string v]] w fun e w' => RTPost base (tab 10 v four a.c) w' e ∧ Below w.heap.size w w' := by
  have HAT := Lib.hid ha
  have HNU : Hid (∀ W, Calls Tryz.prog 119 #[.string v, .int .i64 4] W fun e w' => NumPost W.heap.size 4 v e w' ∧ Below W.heap.size W w') := fun W => numbers_4 v W hv
  by_cases h0 : v.size = 0 ∨ v.size % 4 ≠ 0
  case pos =>
    have HQF : Hid ((tab 10 v four a.c).2 = false) := by show _ = _; rw [t10_bad four a.c (h0.elim Or.inl (fun h => Or.inr (Or.inl h)))]
    generalize tab 10 v four a.c = RES at HQF ⊢
    have HN0 : Hid (∀ b e w', NumPost b 4 v e w' → e = .returned (.tuple #[.slice none 0 0, .bool false])) := fun b e w' h => by unfold NumPost at h; rw [if_pos h0] at h; exact h
    clear h0
    go_enter Tryz.func92, Tryz.ntmps92
    go_upto_region 1 with fail
    refine wp_name fun V hV => ?_
    obtain ⟨s, hs⟩ : ∃ s, s = w.heap.size := ⟨_, rfl⟩
    have HC : Hid (CellsAt V s a.ar 40) := by rw [hV, hs]; exact ((CellsAt.new _ _ _).alloc _).alloc _
    have HR : Hid (CellsAt V (s + 1) #[.int .u8 f.toNat, .int .u8 10, .string v] 32) := by rw [hV, hs]; exact new2 _ _ _ _ _
    have HZ : Hid (CellsAt V (s + 1 + 1) noAtr.ar 40) := by rw [hV, hs]; exact new3 _ _ _ _ _
    have HB : Hid (Below w.heap.size w V) := by rw [hV]; exact below3 _ _ _ _
    have HS : Hid (s = w.heap.size) := hs
    rw [← hs] at hbs ⊢
    clear hV hs ha
    obtain ⟨r0, r1, r2⟩ := CellsAt.c3 HR.out
    go_wp2_with fail
    refine (HNU.out _).mono ?_
    rintro e w1 ⟨hpost, hb⟩
    obtain rfl := HN0.out _ _ _ hpost
    have HC1 : Hid (CellsAt w1 s a.ar 40) := HC.out.below hb HC.out.lt
    have HR1 : Hid (CellsAt w1 (s + 1) #[.int .u8 f.toNat, .int .u8 10, .string v] 32) := HR.out.below hb HR.out.lt
    have HZ1 : Hid (CellsAt w1 (s + 1 + 1) noAtr.ar 40) := HZ.out.below hb HZ.out.lt
    have HB1 : Hid (Below w.heap.size w w1) := HB.out.trans (hb.mono HB.out.size)
    obtain ⟨p0, p1, p2⟩ := CellsAt.c3 HR1.out
    clear hb hpost
    have HP := HC1
    have HQ := HZ1
    have HBP := HB1
    go_wp2_with (with_reducible show wpList _ _ _ (_ :: _) _ _; first | refine wpList_load_attrs rfl (.tmp 2) rfl s rfl a HP.out ?_ | refine wpList_store_attrs rfl (.tmp 4) (.tmp 32) rfl (s + 1 + 1) rfl a rfl noAtr HQ.out ?_)
    have HF : Hid (CellsAt ((w1).setRow (s + 1 + 1) (a : Atr).ar) (s + 1 + 1) (a : Atr).ar 40) := HQ.out.setRow' _
    have HBF : Hid (Below w.heap.size w ((w1).setRow (s + 1 + 1) (a : Atr).ar)) := HBP.out.grown (grown_setRow' _ _ _) HBP.out.size (fun k hk => by cases hk; have := HS.out; omega)
    exact bodyPost_ret (results_at2 rfl _ _ (s + 1 + 1) a (.bool false) rfl rfl HF.out) rfl ⟨by
      unfold RTPost
      rw [HQF.out]
      exact ⟨_, rfl⟩, HBF.out⟩
  have HN1 : Hid (∀ b e w', NumPost b 4 v e w' → ∃ v2, e = .returned (.tuple #[v2, .bool true]) ∧ OwnL w' b 57 1 x1 v2 (asN 4 (v.size / 4) v)) := fun b e w' h => by unfold NumPost at h; rw [if_neg h0] at h; exact h
  obtain ⟨L, hL⟩ : ∃ L, L = asN 4 (v.size / 4) v := ⟨_, rfl⟩
  have hLn : L.length = v.size / 4 := by rw [hL, asN_len]
  have hLL : L.length ≤ 1048576 := by have := Nat.div_le_self v.size 4; omega
  have HQL : Hid (32 < L.length → (tab 10 v four a.c).2 = false) := fun h => by rw [t10_bad four a.c (by omega)]
  have HQK : Hid (¬ 32 < L.length → tab 10 v four a.c = ({ a.c with clus := L }, true)) := fun h => by rw [hL]; exact t10_ok four a.c (by omega)
  rw [← hL] at HN1
  generalize tab 10 v four a.c = RES at HQL HQK ⊢
  have HFT : Hid (∀ n ∈ L, n < 4294967296) := fun n hn => by rw [hL] at hn; exact asN_fit v _ n hn
  have HNA : Hid (∀ (A : Option Addr) (n c : Nat) (W : World), n = L.length → Rd W A 1 (L.map x1) → n ≤ c → c ≤ maxLen → Calls Tryz.prog 120 #[.slice A n c] W fun e w' => (∃ v, e = .returned v ∧ OwnL w' W.heap.size 35 1 u1 v L) ∧ Below W.heap.size W w') := fun A n c W hn h1 h2 h3 => by
    subst hn
    exact narrow_any A L c W h1 h2 (by unfold maxLen at h3; omega) hLL HFT.out
  clear h0 hL hLn
  go_enter Tryz.func92, Tryz.ntmps92
  go_upto_region 1 with fail
  refine wp_name fun V hV => ?_
  obtain ⟨s, hs⟩ : ∃ s, s = w.heap.size := ⟨_, rfl⟩
  have HC : Hid (CellsAt V s a.ar 40) := by rw [hV, hs]; exact ((CellsAt.new _ _ _).alloc _).alloc _
  have HR : Hid (CellsAt V (s + 1) #[.int .u8 f.toNat, .int .u8 10, .string v] 32) := by rw [hV, hs]; exact new2 _ _ _ _ _
  have HZ : Hid (CellsAt V (s + 1 + 1) noAtr.ar 40) := by rw [hV, hs]; exact new3 _ _ _ _ _
  have HB : Hid (Below w.heap.size w V) := by rw [hV]; exact below3 _ _ _ _
  have HS : Hid (s = w.heap.size) := hs
  rw [← hs] at hbs ⊢
  clear hV hs ha
  obtain ⟨r0, r1, r2⟩ := CellsAt.c3 HR.out
  go_wp2_with fail
  refine (HNU.out _).mono ?_
  rintro e w1 ⟨hpost, hb⟩
  have HC1 : Hid (CellsAt w1 s a.ar 40) := HC.out.below hb HC.out.lt
  have HR1 : Hid (CellsAt w1 (s + 1) #[.int .u8 f.toNat, .int .u8 10, .string v] 32) := HR.out.below hb HR.out.lt
  have HZ1 : Hid (CellsAt w1 (s + 1 + 1) noAtr.ar 40) := HZ.out.below hb HZ.out.lt
  have HB1 : Hid (Below w.heap.size w w1) := HB.out.trans (hb.mono HB.out.size)
  obtain ⟨p0, p1, p2⟩ := CellsAt.c3 HR1.out
  obtain ⟨v2, rfl, ho⟩ := HN1.out _ _ _ hpost
  obtain ⟨A1, c1, rfl⟩ := ho.form
  obtain ⟨hr1, _, hc1, hm1⟩ := rd_of x1_len ho
  have HRD1 := Lib.hid hr1
  have hb1 := Lib.hid hb
  clear hb hpost ho hr1
  go_wp2_with fail
  refine (HNA.out A1 _ c1 _ rfl HRD1.out hc1 hm1).mono ?_
  rintro e w2 ⟨⟨v3, rfl, ho⟩, hb⟩
  obtain ⟨A2, c2, rfl⟩ := ho.form
  have HC2 : Hid (CellsAt w2 s a.ar 40) := HC1.out.below hb HC1.out.lt
  have HR2 : Hid (CellsAt w2 (s + 1) #[.int .u8 f.toNat, .int .u8 10, .string v] 32) := HR1.out.below hb HR1.out.lt
  have HZ2 : Hid (CellsAt w2 (s + 1 + 1) noAtr.ar 40) := HZ1.out.below hb HZ1.out.lt
  have HB2 : Hid (Below w.heap.size w w2) := HB1.out.trans (hb.mono HB1.out.size)
  obtain ⟨p0, p1, p2⟩ := CellsAt.c3 HR2.out
  have HO2 : Hid (OwnL w2 (s + 1 + 1 + 1) 35 1 u1 (.slice A2 L.length c2) L) := OwnM.lower ho (Nat.le_trans HZ.out.lt hb1.out.size)
  clear hb ho
  have k15 := (atr_cells HC2.out).2.2.2.2.2.2.2.2.2.2.2.2.2.2.2
  have f15 := HC2.out.unfrozen 15
  have HGP : Hid (w2.grownBy (w2.setCell ⟨s, 15, none⟩ (.slice A2 L.length c2)) (some s)) := grown_setCell w2 ⟨s, 15, none⟩ (.slice A2 L.length c2)
  have HP : Hid (CellsAt (w2.setCell ⟨s, 15, none⟩ (.slice A2 L.length c2)) s ({ a with kA := A2, clus := L, kC := c2 } : Atr).ar 40) := HC2.out.setAt 15 _
  have HQ : Hid (CellsAt (w2.setCell ⟨s, 15, none⟩ (.slice A2 L.length c2)) (s + 1 + 1) noAtr.ar 40) := HZ2.out.row HGP.out (by omega)
  have HBP : Hid (Below w.heap.size w (w2.setCell ⟨s, 15, none⟩ (.slice A2 L.length c2))) := HB2.out.grown HGP.out HB2.out.size (fun k hk => by cases hk; exact Nat.le_of_eq HS.out.symm)
  go_upto_region 15 with fail
  refine wp_region_held_drew (S := fun w' => CellsAt w' s ({ a with kA := A2, clus := L, kC := c2 } : Atr).ar 40) (by kernel_rfl) (HP.out.drew 1) (fun hHeld => ?_)
  refine wpAnyH_take (i := 0) (oi := { dst := some 51, op := Op.load 40 (Operand.tmp 2), type := 40, pos := "ref.go:347", after := #[], guard := none }) (v := ({ a with kA := A2, clus := L, kC := c2 } : Atr).v) rfl (by kernel_rfl) (by kernel_rfl) (by kernel_rfl) (fun _ _ _ h => h) (Or.inl ⟨by rfl, fun w hSw => exec_load_attrs (.tmp 2) rfl s rfl _ w hSw⟩) hHeld ?_
  try simp only [Act.put, List.setIfInBounds_toArray, List.set_cons_zero, List.set_cons_succ]
  refine wpAnyH_take (i := 1) (oi := { dst := some 52, op := Op.fieldAddr 40 (Operand.tmp 2) 15, type := 0, pos := "ref.go:347", after := #[], guard := none }) (v := ?_) rfl (by kernel_rfl) (by kernel_rfl) (by kernel_rfl) (fun _ _ _ h => h) (Or.inl ⟨by rfl, ?_⟩) hHeld ?_
  rotate_left
  · intro w hSw
    clear hSw
    go_simp
    try with_reducible rfl
  try simp only [Act.put, List.setIfInBounds_toArray, List.set_cons_zero, List.set_cons_succ]
  refine wpAnyH_take (i := 2) (oi := { dst := some 53, op := Op.load 36 (Operand.tmp 52), type := 36, pos := "ref.go:347", after := #[{ on := 1, ground := Ground.data }], guard := none }) (v := ?_) rfl (by kernel_rfl) (by kernel_rfl) (by kernel_rfl) (fun _ _ _ h => h) (Or.inl ⟨by rfl, ?_⟩) hHeld ?_
  rotate_left
  · intro w hSw
    have e1 := (atr_cells hSw).2.2.2.2.2.2.2.2.2.2.2.2.2.2.2
    clear hSw
    go_simp
    try with_reducible rfl
  try simp only [Act.put, List.setIfInBounds_toArray, List.set_cons_zero, List.set_cons_succ]
  refine wpAnyH_take (i := 3) (oi := { dst := some 54, op := Op.call { callee := Callee.builtin Builtin.len, args := #[Operand.tmp 53], argTypes := #[36] }, type := 3, pos := "ref.go:347", after := #[{ on := 2, ground := Ground.data }], guard := none }) (v := ?_) rfl (by kernel_rfl) (by kernel_rfl) (by kernel_rfl) (fun _ _ _ h => h) (Or.inl ⟨by rfl, ?_⟩) hHeld ?_
  rotate_left
  · intro w hSw
    clear hSw
    go_simp
    try with_reducible rfl
  try simp only [Act.put, List.setIfInBounds_toArray, List.set_cons_zero, List.set_cons_succ]
  refine wpAnyH_take (i := 4) (oi := { dst := some 55, op := Op.binOp BinOp.leq 3 (Operand.tmp 54) (Operand.const (Value.int IntKind.i64 32)) 3, type := 4, pos := "ref.go:347", after := #[{ on := 3, ground := Ground.data }, { on := 5, ground := Ground.gcOnly Departure.lateStores }], guard := none }) (v := ?_) rfl (by kernel_rfl) (by kernel_rfl) (by kernel_rfl) (fun _ _ _ h => h) (Or.inl ⟨by rfl, ?_⟩) hHeld ?_
  rotate_left
  · intro w hSw
    clear hSw
    go_simp
    try with_reducible rfl
  try simp only [Act.put, List.setIfInBounds_toArray, List.set_cons_zero, List.set_cons_succ]
  refine wpAnyH_ready (rs := [5]) (by kernel_rfl) (by simp) ?_
  refine AllReadyH.cons (o := { dst := none, op := Op.store 40 (Operand.tmp 4) (Operand.tmp 51), type := 0, pos := "ref.go:347", after := #[{ on := 0, ground := Ground.data }, { on := 0, ground := Ground.phase }, { on := 1, ground := Ground.textOnly Departure.lateStores }, { on := 2, ground := Ground.textOnly Departure.lateStores }, { on := 3, ground := Ground.textOnly Departure.lateStoresUnsure }, { on := 4, ground := Ground.textOnly Departure.lateStores }], guard := none }) rfl (fun K hK => ?_) AllReadyH.nil
  rw [if_pos (by kernel_rfl)]
  refine wp_store_row 40 (.tmp 4) (.tmp 51) rfl (s + 1 + 1) ({ a with kA := A2, clus := L, kC := c2 } : Atr).ar rfl rfl 40 noAtr.ar (HQ.out.drew 1) (by rw [attrs_size]; rfl) rfl (attrs_ones _) ?_
  refine hK.out _ _ ((setRow_other _ _ _ _ (by omega)).trans hHeld) (fun hHeld => ?_)
  clear hK K
  try simp only [Act.put, List.setIfInBounds_toArray, List.set_cons_zero, List.set_cons_succ]
  refine wpAnyH_take (i := 6) (oi := { dst := some 5, op := Op.assign (Operand.tmp 55), type := 4, pos := "ref.go:347", after := #[{ on := 4, ground := Ground.data }, { on := 5, ground := Ground.chain }, { on := 0, ground := Ground.phase }, { on := 1, ground := Ground.phase }, { on := 2, ground := Ground.phase }, { on := 3, ground := Ground.phase }, { on := 4, ground := Ground.phase }, { on := 5, ground := Ground.phase }], guard := none }) (v := ?_) rfl (by kernel_rfl) (by kernel_rfl) (by kernel_rfl) (fun _ _ _ h => h) (Or.inl ⟨by rfl, ?_⟩) hHeld ?_
  rotate_left
  · intro w hSw
    clear hSw
    go_simp
    try with_reducible rfl
  try simp only [Act.put, List.setIfInBounds_toArray, List.set_cons_zero, List.set_cons_succ]
  refine wpAnyH_done (by kernel_rfl) ?_ _
  have HF : Hid (CellsAt ((w2.setCell ⟨s, 15, none⟩ (.slice A2 L.length c2)).drew.setRow (s + 1 + 1) ({ a with kA := A2, clus := L, kC := c2 } : Atr).ar) (s + 1 + 1) ({ a with kA := A2, clus := L, kC := c2 } : Atr).ar 40) := (HQ.out.drew 1).setRow' _
  have HBF : Hid (Below w.heap.size w ((w2.setCell ⟨s, 15, none⟩ (.slice A2 L.length c2)).drew.setRow (s + 1 + 1) ({ a with kA := A2, clus := L, kC := c2 } : Atr).ar)) := (below_drewN HBP.out 1).grown (grown_setRow' _ _ _) (below_drewN HBP.out 1).size (fun k hk => by cases hk; have := HS.out; omega)
  have HEX : Hid (OwnL ((w2.setCell ⟨s, 15, none⟩ (.slice A2 L.length c2)).drew.setRow (s + 1 + 1) ({ a with kA := A2, clus := L, kC := c2 } : Atr).ar) base 35 1 u1 (.slice A2 L.length c2) L) := OwnM.lower (OwnL.keep (w := w2) HO2.out (fun k h1 _ => (setRow_other _ _ k _ (by omega)).trans (Below.heap_setCell w2 _ _ k (by show k ≠ s; omega)))) (by omega)
  go_wp2_with fail
  exact bodyPost_ret (results_at2 rfl _ _ (s + 1 + 1) { a with kA := A2, clus := L, kC := c2 } (.bool (decide ((L.length : Int) ≤ 32))) rfl rfl HF.out) rfl ⟨by
    by_cases h64 : 32 < L.length
    · unfold RTPost
      rw [HQL.out h64, decide_eq_false (by omega)]
      exact ⟨_, rfl⟩
    · rw [HQK.out h64, decide_eq_true (by omega)]
      exact ⟨_, rfl, { AtO.below HAT.out HBF.out with clus := HEX.out, kfit := HFT.out }, rfl⟩, HBF.out⟩
end Go.Proofs.YtkcojblflebomaaGreat
