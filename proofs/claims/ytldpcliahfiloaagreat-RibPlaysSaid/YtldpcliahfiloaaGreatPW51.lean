/-
  Several texts in one.
-/
import Derived.Test.YtldpcliahfiloaaGreatPW50
set_option linter.unusedVariables false
set_option linter.unusedSimpArgs false
namespace Go.Proofs.YtldpcliahfiloaaGreat
open Go.RowKit Go.MapKept Go.Shelf
open Go.ChangeShapes Go.WideShapes Go.ChangeAt
open Go.ChangeMaps (open_string shut_string)
open Go.Lib hiding intOf
open Go.Sort hiding Below

set_option maxRecDepth 100000 in
set_option maxHeartbeats 16000000 in
theorem step1_any {w : World} {b m : Nat} {most : Int} {M : List TdC} {A : Option Addr} {c : Nat} {L : List Td} (h : StP w b m most M A c L) (hlen : M.length ≤ 800) (z : Int) (hz : (wrap64 (z.tmod 7 + 7)).tmod 7 = 1) (k : Pk) (hk : k.Ok) (label : Nat) (hl : label < 4294967296) (a : Atr) (ha : AtrOk w a) (hsz : AtrSz a.c) (fam : Int) :
    Calls Tryz.prog 5 #[.pointer (some ⟨b, 0, none⟩), .agg (ribAr most A L.length c), .agg (doAr z k label a fam)] w fun e w' => StepPost w m most M A c L w' e := by
  obtain ⟨⟨base, hrib⟩, hph, hrel⟩ := h
  have HRIB := Lib.hid hrib
  have HPH := Lib.hid hph
  have HREL := Lib.hid hrel
  have HK := Lib.hid hk
  have HLB := Lib.hid hl
  have HAO := Lib.hid ha
  have HSZ := Lib.hid hsz
  have HZ := Lib.hid hz
  have HLEN : Hid (M.length ≤ 800) := hlen
  have hLl : L.length ≤ 800 := by have := hrel.len; rw [List.length_map] at this; omega
  clear hrib hph hrel hk hl ha hsz hz hlen
  go_enter Tryz.func5, Tryz.ntmps5
  go_upto_region 1 with fail
  refine rb_name fun V hV => ?_
  obtain ⟨s, hs⟩ : ∃ s, s = w.heap.size := ⟨_, rfl⟩
  have HR0 : Hid (CellsAt V s (ribAr most A L.length c) 27) := by rw [hV, hs]; exact ((CellsAt.new _ _ _).alloc _).alloc _
  have HD0 : Hid (CellsAt V (s + 1) (doAr z k label a fam) 43) := by
    have h := CellsAt.new (w.alloc (.cells (ribAr most A L.length c) 27)) (doAr z k label a fam) 43
    rw [World.size_alloc] at h
    rw [hV, hs]
    exact h.alloc _
  have HQ0 : Hid (CellsAt V (s + 2) (ribAr 0 none 0 0) 27) := by
    have h := CellsAt.new ((w.alloc (.cells (ribAr most A L.length c) 27)).alloc (.cells (doAr z k label a fam) 43)) (ribAr 0 none 0 0) 27
    rw [World.size_alloc, World.size_alloc] at h
    rw [hV, hs]
    exact h
  have HB : Hid (Below w.heap.size w V) := by rw [hV]; exact (((Below.refl _ _).alloc (Nat.le_refl _) _).alloc (by simp) _).alloc (by simp; omega) _
  have HS : Hid (s = w.heap.size) := hs
  have HRV : Hid (RibM V base b m most M) := HRIB.out.below HB.out
  have hms : m < s := by rw [hs]; exact HRIB.out.lt.2.1
  have hbs : b < s := by rw [hs]; exact HRIB.out.lt.1
  rw [← hs]
  clear hV hs
  obtain ⟨d0, ⟨d1, d2, d3, d4, d5, d6⟩, d23⟩ := do_cells HD0.out
  go_upto_region 2 with fail
  rw [HZ.out]
  clear HZ d0
  have HGD : Hid (∀ W, Below w.heap.size w W → Calls Tryz.prog 16 #[.agg (ribAr most A L.length c), .agg #[.int .i64 k.fam, .int .u64 k.rd, .string k.addr, .int .i64 k.len], .int .u32 (k.id : Nat)] W fun e w' => (∃ A' c' L', e = .returned (.tuple #[.agg (ribAr most A' (List.length L') c'), .bool (getC M k).isSome]) ∧ NewL W w' A c L A' c' L' ∧ Rel (delC M k) (L'.map Td.c)) ∧ Below W.heap.size W w') := fun W hW => by
    refine (gone22_any (HPH.out.below hW) HREL.out.2 (by omega) most k HK.out).mono ?_
    rintro e w' ⟨⟨A', c', L', he, hn, hc⟩, hb⟩
    obtain ⟨g1, g2⟩ := HREL.out.goneD k
    exact ⟨⟨A', c', L', by rw [he, g1], hn, by rw [hc]; exact g2⟩, hb⟩
  have HRG : Hid (∀ W, RibM W base b m most M → Calls Tryz.prog 17 #[.pointer (some ⟨b, 0, none⟩), .agg #[.int .i64 k.fam, .int .u64 k.rd, .string k.addr, .int .i64 k.len, .int .u32 (k.id : Nat), .int .u32 (label : Nat)]] W fun e w' => e = .returned (.bool (getC M k).isSome) ∧ RibM w' base b m most (delC M k) ∧ GrownX (fun i => i = m) W w') := fun W h => rgoneM_any h k label HK.out
  have HLM : Hid ((delC M k).length ≤ M.length + 1) := Nat.le_trans delC_len (Nat.le_succ _)
  generalize delC M k = M2 at HGD HRG HLM
  generalize (getC M k).isSome = bq at HGD HRG
  go_wp2_with (with_reducible show wpList _ _ _ (_ :: _) _ _; refine wpList_load_rib rfl (.tmp 4) rfl s rfl most A L.length c HR0.out ?_)
  refine (HGD.out V HB.out).mono ?_
  rintro e w3 ⟨⟨A', c', L2, rfl, hnew, hrl⟩, hb3⟩
  have HNEW : Hid (NewL V w3 A c L A' c' L2) := hnew
  have HRL : Hid (Rel M2 (L2.map Td.c)) := hrl
  have HB3 : Hid (Below V.heap.size V w3) := hb3
  have HN : Hid (∀ cs : Array Value, CellsAt (w3.alloc (.cells cs 27)) w3.heap.size cs 27) := fun cs => CellsAt.new _ _ _
  clear hnew hrl hb3 HGD d1 d2 d3 d4 d5 d6 d23
  generalize hn2 : List.length L2 = n2
  have HNN := Lib.hid hn2
  clear hn2
  go_upto_region 11 with (with_reducible show wpList _ _ _ (_ :: _) _ _; refine wpList_store_rib rfl (.tmp 16) (.tmp 91) rfl w3.heap.size rfl most A' n2 c' rfl _ (HN.out _) rfl ?_)
  refine rb_name fun Z hZ => ?_
  have HBZ : Hid (Below w3.heap.size w3 Z) := by rw [hZ]; exact ((Below.refl _ _).alloc (Nat.le_refl _) _).grown (grown_setRow' _ _ _) (by simp) (fun q hq => by cases hq; exact Nat.le_refl _)
  obtain ⟨g, hg⟩ : ∃ x, x = w3.heap.size := ⟨_, rfl⟩
  have HG : Hid (CellsAt Z g (ribAr most A' n2 c') 27) := by rw [hZ, hg]; exact (HN.out _).setRow' _
  have HVZ : Hid (Below V.heap.size V Z) := HB3.out.trans (HBZ.out.mono HB3.out.size)
  have hgs : s + 2 < g := by rw [hg]; exact Nat.lt_of_lt_of_le HQ0.out.lt HB3.out.size
  try rw [← hg]
  try simp only [Act.put]
  have HRZ : Hid (RibM Z base b m most M) := HRV.out.below HVZ.out
  have HBX : Hid (∀ W, GrownX (fun i => i = m ∨ i = s + 2) Z W → CellsAt W (s + 1) (doAr z k label a fam) 43 ∧ CellsAt W g (ribAr most A' n2 c') 27) := fun W hW => ⟨(HD0.out.below HVZ.out HD0.out.lt).grownX hW (by omega), HG.out.grownX hW (by omega)⟩
  have HKZ : Hid (∀ i, i < w3.heap.size → Z.heap[i]? = w3.heap[i]?) := fun i hi => HBZ.out.block i hi
  have HSV : Hid (s + 2 < V.heap.size) := HQ0.out.lt
  have HSZ2 : Hid (w3.heap.size ≤ Z.heap.size) := HBZ.out.size
  have HQZ : Hid (CellsAt Z (s + 2) (ribAr 0 none 0 0) 27) := HQ0.out.below HVZ.out HQ0.out.lt
  clear hZ hg HN HG HR0 HD0 HQ0 HRV HBZ
  refine wp_region_held_drew (S := fun w' => GrownX (fun i => i = m ∨ i = s + 2) Z w') (by kernel_rfl) ((GrownX.refl _ _).drew 1) (fun hHeld => ?_)
  refine wpAnyH_take (i := 0) (oi := { dst := some 93, op := Op.move (Operand.tmp 0), type := 23, pos := "law.go:52", after := #[], guard := none }) (v := ?_) rfl (by kernel_rfl) (by kernel_rfl) (by kernel_rfl) (fun _ _ _ h => h) (Or.inl ⟨by rfl, ?_⟩) hHeld ?_
  rotate_left
  · intro w hSw
    clear hSw
    go_simp
    try with_reducible rfl
  try simp only [Act.put, List.setIfInBounds_toArray, List.set_cons_zero, List.set_cons_succ]
  refine wpAnyH_take (i := 1) (oi := { dst := some 94, op := Op.load 27 (Operand.tmp 16), type := 27, pos := "law.go:52", after := #[{ on := 8, ground := Ground.gcOnly Departure.lateStores }], guard := none }) (v := Value.agg (ribAr most A' n2 c')) rfl (by kernel_rfl) (by kernel_rfl) (by kernel_rfl) (fun _ _ _ h => h) (yields_rib (by rfl) (.tmp 16) rfl g (by rfl) most A' n2 c' (fun w hSw => (HBX.out w hSw).2)) hHeld ?_
  try simp only [Act.put, List.setIfInBounds_toArray, List.set_cons_zero, List.set_cons_succ]
  refine wpAnyH_take (i := 2) (oi := { dst := some 95, op := Op.move (Operand.tmp 0), type := 23, pos := "law.go:52", after := #[], guard := none }) (v := ?_) rfl (by kernel_rfl) (by kernel_rfl) (by kernel_rfl) (fun _ _ _ h => h) (Or.inl ⟨by rfl, ?_⟩) hHeld ?_
  rotate_left
  · intro w hSw
    clear hSw
    go_simp
    try with_reducible rfl
  try simp only [Act.put, List.setIfInBounds_toArray, List.set_cons_zero, List.set_cons_succ]
  refine wpAnyH_take (i := 3) (oi := { dst := some 96, op := Op.fieldAddr 43 (Operand.tmp 5) 1, type := 0, pos := "law.go:52", after := #[], guard := none }) (v := ?_) rfl (by kernel_rfl) (by kernel_rfl) (by kernel_rfl) (fun _ _ _ h => h) (Or.inl ⟨by rfl, ?_⟩) hHeld ?_
  rotate_left
  · intro w hSw
    clear hSw
    go_simp
    try with_reducible rfl
  try simp only [Act.put, List.setIfInBounds_toArray, List.set_cons_zero, List.set_cons_succ]
  refine wpAnyH_take (i := 4) (oi := { dst := some 97, op := Op.load 35 (Operand.tmp 96), type := 35, pos := "law.go:52", after := #[{ on := 3, ground := Ground.data }], guard := none }) (v := ?_) rfl (by kernel_rfl) (by kernel_rfl) (by kernel_rfl) (fun _ _ _ h => h) (Or.inl ⟨by rfl, ?_⟩) hHeld ?_
  rotate_left
  · intro w hSw
    obtain ⟨_, ⟨d1, d2, d3, d4, d5, d6⟩, d23⟩ := do_cells (HBX.out w hSw).1
    go_simp
    try with_reducible rfl
  try simp only [Act.put, List.setIfInBounds_toArray, List.set_cons_zero, List.set_cons_succ]
  refine wpAnyH_take (i := 6) (oi := { dst := some 99, op := Op.move (Operand.tmp 17), type := 4, pos := "law.go:52", after := #[{ on := 9, ground := Ground.gcOnly Departure.lateStores }], guard := none }) (v := ?_) rfl (by kernel_rfl) (by kernel_rfl) (by kernel_rfl) (fun _ _ _ h => h) (Or.inl ⟨by rfl, ?_⟩) hHeld ?_
  rotate_left
  · intro w hSw
    clear hSw
    go_simp
    try with_reducible rfl
  try simp only [Act.put, List.setIfInBounds_toArray, List.set_cons_zero, List.set_cons_succ]
  refine wpAnyH_ready (rs := [5]) (by kernel_rfl) (by simp) ?_
  refine AllReadyH.cons (o := { dst := some 98, op := Op.call { callee := Callee.value (Operand.func 17), args := #[Operand.tmp 95, Operand.tmp 97], argTypes := #[23, 35] }, type := 4, pos := "law.go:52", after := #[{ on := 2, ground := Ground.data }, { on := 4, ground := Ground.data }], guard := none }) rfl (fun K hK => ?_) AllReadyH.nil
  go_simp
  refine (HRG.out _ HRZ.out.drew_).mono ?_
  rintro e w6 ⟨rfl, hr6, hg6⟩
  have HR6 : Hid (RibM w6 base b m most M2) := hr6
  have HG6 : Hid (GrownX (fun i => i = m) Z w6) := ((GrownX.refl _ _).drew 1).trans hg6
  have HX6 : Hid (GrownX (fun i => i = m ∨ i = s + 2) Z w6) := HG6.out.mono' (fun i hi => .inl hi)
  have HQ6 : Hid (CellsAt w6 (s + 2) (ribAr 0 none 0 0) 27) := HQZ.out.grownX HG6.out (by omega)
  refine hK.out _ _ (HX6.out) (fun hHeld => ?_)
  clear hK K
  try simp only [Act.put, List.setIfInBounds_toArray, List.set_cons_zero, List.set_cons_succ]
  refine wpAnyH_take (i := 7) (oi := { dst := some 100, op := Op.binOp BinOp.eql 4 (Operand.tmp 98) (Operand.tmp 99) 4, type := 4, pos := "law.go:52", after := #[{ on := 5, ground := Ground.data }, { on := 6, ground := Ground.data }, { on := 9, ground := Ground.gcOnly Departure.lateStores }], guard := none }) (v := ?_) rfl (by kernel_rfl) (by kernel_rfl) (by kernel_rfl) (fun _ _ _ h => h) (Or.inl ⟨by rfl, ?_⟩) hHeld ?_
  rotate_left
  · intro w hSw
    clear hSw
    go_simp
    try with_reducible rfl
  try simp only [Act.put, List.setIfInBounds_toArray, List.set_cons_zero, List.set_cons_succ]
  refine wpAnyH_take (i := 8) (oi := { dst := some 6, op := Op.assign (Operand.tmp 93), type := 23, pos := "law.go:52", after := #[{ on := 0, ground := Ground.data }, { on := 5, ground := Ground.chain }, { on := 0, ground := Ground.phase }, { on := 1, ground := Ground.textOnly Departure.lateStores }, { on := 2, ground := Ground.textOnly Departure.lateStores }, { on := 3, ground := Ground.textOnly Departure.lateStores }, { on := 4, ground := Ground.textOnly Departure.lateStores }, { on := 5, ground := Ground.textOnly Departure.lateStoresUnsure }, { on := 6, ground := Ground.textOnly Departure.lateStores }, { on := 7, ground := Ground.textOnly Departure.lateStores }], guard := none }) (v := ?_) rfl (by kernel_rfl) (by kernel_rfl) (by kernel_rfl) (fun _ _ _ h => h) (Or.inl ⟨by rfl, ?_⟩) hHeld ?_
  rotate_left
  · intro w hSw
    clear hSw
    go_simp
    try with_reducible rfl
  try simp only [Act.put, List.setIfInBounds_toArray, List.set_cons_zero, List.set_cons_succ]
  refine wpAnyH_ready (rs := [9]) (by kernel_rfl) (by simp) ?_
  refine AllReadyH.cons (o := { dst := none, op := Op.store 27 (Operand.tmp 7) (Operand.tmp 94), type := 0, pos := "law.go:52", after := #[{ on := 1, ground := Ground.data }, { on := 8, ground := Ground.chain }, { on := 0, ground := Ground.phase }, { on := 1, ground := Ground.phase }, { on := 2, ground := Ground.textOnly Departure.lateStores }, { on := 3, ground := Ground.textOnly Departure.lateStores }, { on := 4, ground := Ground.textOnly Departure.lateStores }, { on := 5, ground := Ground.textOnly Departure.lateStoresUnsure }, { on := 6, ground := Ground.textOnly Departure.lateStores }, { on := 7, ground := Ground.textOnly Departure.lateStores }, { on := 8, ground := Ground.phase }], guard := none }) rfl (fun K hK => ?_) AllReadyH.nil
  refine wp_store_row 27 (.tmp 7) (.tmp 94) rfl (s + 2) (ribAr most A' n2 c') rfl rfl 27 _ HQ6.out (by rw [rib_size]; rfl) rfl (rib_ones _ _ _ _) ?_
  refine hK.out _ _ (hHeld.trans (GrownX.of_row (X := fun i => i = m ∨ i = s + 2) (grown_setRow' _ _ _) (.inr rfl))) (fun hHeld => ?_)
  clear hK K
  try simp only [Act.put, List.setIfInBounds_toArray, List.set_cons_zero, List.set_cons_succ]
  refine wpAnyH_take (i := 10) (oi := { dst := some 8, op := Op.assign (Operand.tmp 100), type := 4, pos := "law.go:52", after := #[{ on := 7, ground := Ground.data }, { on := 9, ground := Ground.chain }, { on := 0, ground := Ground.phase }, { on := 1, ground := Ground.phase }, { on := 2, ground := Ground.phase }, { on := 3, ground := Ground.phase }, { on := 4, ground := Ground.phase }, { on := 5, ground := Ground.phase }, { on := 6, ground := Ground.phase }, { on := 7, ground := Ground.phase }, { on := 8, ground := Ground.phase }, { on := 9, ground := Ground.phase }], guard := none }) (v := ?_) rfl (by kernel_rfl) (by kernel_rfl) (by kernel_rfl) (fun _ _ _ h => h) (Or.inl ⟨by rfl, ?_⟩) hHeld ?_
  rotate_left
  · intro w hSw
    clear hSw
    go_simp
    try with_reducible rfl
  try simp only [Act.put, List.setIfInBounds_toArray, List.set_cons_zero, List.set_cons_succ]
  refine wpAnyH_done (by kernel_rfl) ?_ _
  have HF : Hid (CellsAt (w6.setRow (s + 2) (ribAr most A' n2 c')) (s + 2) (ribAr most A' n2 c') 27) := HQ6.out.setRow' _
  have hgr := grown_setRow' w6 (s + 2) (ribAr most A' n2 c')
  have HRF : Hid (RibM (w6.setRow (s + 2) (ribAr most A' n2 c')) base b m most M2) := HR6.out.offT hgr HQ6.out (by omega) (by omega)
  have HGF : Hid (GrownX (fun i => i = m) w (w6.setRow (s + 2) (ribAr most A' n2 c'))) := ((GrownX.of_below (HB.out.trans (HVZ.out.mono HB.out.size))).trans HG6.out).new_ (GrownX.of_row (X := fun i => i = s + 2) hgr rfl) (fun i hi => by rw [hi, HS.out]; omega)
  have HPNF : Hid (PhL (w6.setRow (s + 2) (ribAr most A' n2 c')) A' c' L2) ∧ Hid (NewL w (w6.setRow (s + 2) (ribAr most A' n2 c')) A c L A' c' L2) := ph_mono HNEW.out (HPH.out.keepX HGF.out (fun i hi => by rw [hi]; exact HRIB.out.mapBlk)) (HB.out.size) (fun i h1 h2 => by
    have h3 := HSV.out
    have h4 := HSZ2.out
    rw [hgr.block i (Nat.lt_of_lt_of_le (Nat.lt_of_lt_of_le h2 h4) HG6.out.size) (fun e => by injection e with e; omega), HG6.out.block i (Nat.lt_of_lt_of_le h2 h4) (by omega), HKZ.out i h2])
  obtain ⟨HPF, HNF⟩ := HPNF
  clear hHeld
  go_wp2_with fail
  exact bodyPost_ret (results_step rfl _ _ (s + 2) most A' n2 c' (.pointer (some ⟨b, 0, none⟩)) (.bool true) rfl rfl rfl HF.out) rfl ⟨b, m, _, A', c', L2, by rw [HNN.out], ⟨⟨base, HRF.out⟩, HPF.out, HRL.out⟩, HLM.out, .inl rfl, HGF.out, HNF.out⟩
end Go.Proofs.YtldpcliahfiloaaGreat
