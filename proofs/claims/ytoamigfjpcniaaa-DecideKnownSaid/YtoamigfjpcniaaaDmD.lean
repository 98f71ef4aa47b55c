/-
  DecideKnown walked. Conditions: none.
-/
import Derived.Test.YtoamigfjpcniaaaDmC
import Derived.BigRegion
set_option linter.unusedVariables false
set_option linter.unusedSimpArgs false
namespace Go.Proofs.Ytoamigfjpcniaaa
open Go.RowKit Go.MapKept Go.Shelf
open Go.Lib hiding intOf

set_option maxRecDepth 100000 in
set_option maxHeartbeats 16000000 in
theorem known_any (w : World) : Calls Try.prog 7 #[] w fun e w' => e = .returned (.bool true) ∧ Below w.heap.size w w' := by
  have HP := Lib.hid path_one
  have HPN := Lib.hid path_none
  have HT := Lib.hid three_any
  have HBE := Lib.hid Best_any
  have HORD := Lib.hid Order_any
  have HSOM := Lib.hid Some_any
  have HAL := Lib.hid alike_any
  have HLO := Lib.hid loops_any
  have HDE := Lib.hid degree_any
  have HNE := Lib.hid neighbour_any
  have HWK := Lib.hid works_any
  have HB : Hid (Below w.heap.size w w) := Below.refl _ _
  go_enter Try.func7, Try.ntmps7
  go_wp2_with fail
  refine (HP.out ⟨#[97]⟩ 1 [1] w.heap.size 1 _ _ _ (CellsAt.new w #[.int .u32 1] 28) rfl rfl (by decide) (by decide) (by decide) (by decide)).mono ?_
  rintro e w1 ⟨p1, rfl, ho, hb1⟩
  have Qp1 := Lib.hid ho
  have hb := below_step hb1
  replace HB := Lib.hid (HB.out.trans (hb.mono HB.out.size))
  have OKp1 : Hid (PtOk w1 p1) := ho.ok
  clear ho hb1 hb
  have HLBX : Hid (w.heap.size ≤ w1.heap.size) := HB.out.size
  go_wp2_with (with_reducible show wpList _ _ _ (_ :: _) _ _; refine wpList_box_new rfl (.tmp 1) (.tmp 31) rfl rfl p1 rfl rfl OKp1 ?_)
  intro w2 BX hbn
  replace HB := Lib.hid (HB.out.trans (hbn.out.mono HB.out.size))
  clear hbn
  clear OKp1
  have HE : Hid ((Pt.cs (p1)).setIfInBounds 11 (.bool true) = Pt.cs (pref0 p1)) := by
    show _ = _
    kernel_rfl
  have HI : Hid (11 < (Pt.cs (p1)).size) := by
    show _ < _
    rw [Pt.cs_size]
    decide
  have HC := Lib.hid BX.out.cells
  go_wp2_with (with_reducible show wpList _ _ _ (_ :: _) _ _; refine wpList_cell_set rfl 4 (.tmp 33) (.const (.bool true)) rfl 11 rfl (.bool true) rfl (by kernel_rfl) HC (Pt.cs (pref0 p1)) HE HI rfl ?_)
  intro w3 HCN hk hb
  replace HB := Lib.hid (HB.out.trans (hb.out.mono HLBX.out))
  replace BX := Lib.hid (BX.out.set HCN.out hb.out (fun U h => pref0_ok h))
  clear HE HI HC HCN hk hb
  have HE : Hid ((Pt.cs (pref0 p1)).setIfInBounds 12 (.int .u32 90) = Pt.cs (prefP p1)) := by
    show _ = _
    kernel_rfl
  have HI : Hid (12 < (Pt.cs (pref0 p1)).size) := by
    show _ < _
    rw [Pt.cs_size]
    decide
  have HC := Lib.hid BX.out.cells
  go_wp2_with (with_reducible show wpList _ _ _ (_ :: _) _ _; refine wpList_cell_set rfl 28 (.tmp 35) (.const (.int .u32 90)) rfl 12 rfl (.int .u32 90) rfl (by kernel_rfl) HC (Pt.cs (prefP p1)) HE HI rfl ?_)
  intro w4 HCN hk hb
  replace HB := Lib.hid (HB.out.trans (hb.out.mono HLBX.out))
  replace BX := Lib.hid (BX.out.set HCN.out hb.out (fun U h => prefP_ok (p := p1) ⟨h.rd, h.segs, h.len, h.cap, h.clen, h.ccap, h.peer, h.addr, h.crd, h.one1, h.one2, h.one3⟩))
  clear HE HI HC HCN hk hb
  have HRX := Lib.hid BX.out.cells.range
  have HLX := Lib.hid BX.out.lt
  have HOX := Lib.hid BX.out.ok
  go_wp2_with fail
  refine wp_region_held_drew (S := fun w' => Below w4.heap.size w4 w') (by kernel_rfl) (below_drewN (Below.refl _ _) 1) (fun hHeld => ?_)
  refine wpAnyH_take (i := 0) (oi := { dst := some 37, op := Op.load 38 (Operand.tmp 1), type := 38, pos := "outright.go:163", after := #[], guard := none }) (v := .agg (Pt.cs (prefP p1))) rfl (by kernel_rfl) (by kernel_rfl) (by kernel_rfl) (fun _ _ _ h => h) (yields_prange (by rfl) _ rfl w1.heap.size 0 (by rfl) (prefP p1) (fun w h => rangeAt_below HRX.out h HLX.out)) hHeld ?_
  try simp only [Act.put, List.setIfInBounds_toArray, List.set_cons_zero, List.set_cons_succ]
  refine wpAnyH_ready (rs := [1]) (by kernel_rfl) (by simp) ?_
  refine AllReadyH.cons (o := { dst := some 38, op := Op.buildSlice 30 2 #[(0, Operand.const (Value.int IntKind.u32 1)), (1, Operand.const (Value.int IntKind.u32 2))], type := 30, pos := "outright.go:163", after := #[], guard := none }) rfl (fun K hK => ?_) AllReadyH.nil
  go_simp
  skip
  refine hK.out _ _ (hHeld.alloc hHeld.size _) (fun hHeld => ?_)
  clear hK K
  try simp only [Act.put, List.setIfInBounds_toArray, List.set_cons_zero, List.set_cons_succ]
  refine wpAnyH_ready (rs := [2]) (by kernel_rfl) (by simp) ?_
  refine AllReadyH.cons (o := { dst := some 39, op := Op.call { callee := Callee.value (Operand.func 30), args := #[Operand.const (Value.string { data := #[98] }), Operand.const (Value.int IntKind.u32 2), Operand.tmp 38], argTypes := #[9, 28, 30] }, type := 38, pos := "outright.go:163", after := #[{ on := 1, ground := Ground.data }], guard := none }) rfl (fun K hK => ?_) AllReadyH.nil
  go_simp
  refine (HP.out ⟨#[98]⟩ 2 [1, 2] w4.heap.size 2 _ _ _ (CellsAt.new w4.drew #[.int .u32 1, .int .u32 2] 28) rfl rfl (by decide) (by decide) (by decide) (by decide)).mono ?_
  rintro e w5 ⟨p2, rfl, ho, hb1⟩
  have Qp2 := Lib.hid ho
  have HGp2 := Lib.hid hb1
  clear ho hb1
  go_wp2_with fail
  refine hK.out _ _ (hHeld.trans (HGp2.out.mono hHeld.size)) (fun hHeld => ?_)
  clear hK K
  try simp only [Act.put, List.setIfInBounds_toArray, List.set_cons_zero, List.set_cons_succ]
  refine wpAnyH_ready (rs := [3]) (by kernel_rfl) (by simp) ?_
  refine AllReadyH.cons (o := { dst := some 40, op := Op.buildSlice 23 2 #[(0, Operand.tmp 37), (1, Operand.tmp 39)], type := 23, pos := "outright.go:163", after := #[{ on := 0, ground := Ground.data }, { on := 2, ground := Ground.data }], guard := none }) rfl (fun K hK => ?_) AllReadyH.nil
  refine wp_build_paths (by rfl) rfl [prefP p1, p2] (by kernel_rfl) rfl (by decide) (by decide) ?_
  refine hK.out _ _ (hHeld.alloc hHeld.size _) (fun hHeld => ?_)
  clear hK K
  try simp only [Act.put, List.setIfInBounds_toArray, List.set_cons_zero, List.set_cons_succ]
  refine wpAnyH_ready (rs := [4]) (by kernel_rfl) (by simp) ?_
  refine AllReadyH.cons (o := { dst := some 41, op := Op.call { callee := Callee.value (Operand.func 12), args := #[Operand.tmp 40, Operand.const Value.nilFunc], argTypes := #[23, 41] }, type := 44, pos := "outright.go:163", after := #[{ on := 3, ground := Ground.data }, { on := 2, ground := Ground.chain }], guard := none }) rfl (fun K hK => ?_) AllReadyH.nil
  go_simp
  refine (HBE.out _ 2 [prefP p1, p2] .nilFunc freeP _ (rows_at (CellsAt.new _ _ _) (by simp) (two_ok (((HOX.out.below hHeld (Nat.le_refl _)))) ((Qp2.out.ok.below ((Below.refl _ _).alloc (Nat.le_refl _) _) (Nat.le_refl _))))) (fits_free _) (by simp)).mono ?_
  rintro e w6 ⟨rfl, hb6⟩
  rw [kn_a Qp1.out Qp2.out]
  go_wp2_with fail
  refine hK.out _ _ (hHeld.trans (hb6.mono hHeld.size)) (fun hHeld => ?_)
  clear hK K
  try simp only [Act.put, List.setIfInBounds_toArray, List.set_cons_zero, List.set_cons_succ]
  refine wpAnyH_take (i := 5) (oi := { dst := some 36, op := Op.move (Operand.tmp 41), type := 44, pos := "outright.go:163", after := #[{ on := 4, ground := Ground.data }], guard := none }) (v := ?_) rfl (by kernel_rfl) (by kernel_rfl) (by kernel_rfl) (fun _ _ _ h => h) (Or.inl ⟨by rfl, ?_⟩) hHeld ?_
  rotate_left
  · intro w hSw
    clear hSw
    go_simp
    try with_reducible rfl
  try simp only [Act.put, List.setIfInBounds_toArray, List.set_cons_zero, List.set_cons_succ]
  refine wpAnyH_take (i := 6) (oi := { dst := some 42, op := Op.extract (Operand.tmp 36) 0, type := 3, pos := "outright.go:163", after := #[{ on := 5, ground := Ground.data }], guard := none }) (v := ?_) rfl (by kernel_rfl) (by kernel_rfl) (by kernel_rfl) (fun _ _ _ h => h) (Or.inl ⟨by rfl, ?_⟩) hHeld ?_
  rotate_left
  · intro w hSw
    clear hSw
    go_simp
    try with_reducible rfl
  try simp only [Act.put, List.setIfInBounds_toArray, List.set_cons_zero, List.set_cons_succ]
  refine wpAnyH_take (i := 7) (oi := { dst := some 43, op := Op.extract (Operand.tmp 36) 1, type := 4, pos := "outright.go:163", after := #[{ on := 5, ground := Ground.data }, { on := 8, ground := Ground.gcOnly Departure.lateStores }], guard := none }) (v := ?_) rfl (by kernel_rfl) (by kernel_rfl) (by kernel_rfl) (fun _ _ _ h => h) (Or.inl ⟨by rfl, ?_⟩) hHeld ?_
  rotate_left
  · intro w hSw
    clear hSw
    go_simp
    try with_reducible rfl
  try simp only [Act.put, List.setIfInBounds_toArray, List.set_cons_zero, List.set_cons_succ]
  refine wpAnyH_take (i := 8) (oi := { dst := some 2, op := Op.assign (Operand.tmp 42), type := 3, pos := "outright.go:163", after := #[{ on := 6, ground := Ground.data }, { on := 4, ground := Ground.chain }, { on := 0, ground := Ground.phase }, { on := 1, ground := Ground.phase }, { on := 2, ground := Ground.phase }, { on := 3, ground := Ground.phase }, { on := 4, ground := Ground.phase }, { on := 5, ground := Ground.phase }, { on := 6, ground := Ground.phase }, { on := 7, ground := Ground.textOnly Departure.lateStores }], guard := none }) (v := ?_) rfl (by kernel_rfl) (by kernel_rfl) (by kernel_rfl) (fun _ _ _ h => h) (Or.inl ⟨by rfl, ?_⟩) hHeld ?_
  rotate_left
  · intro w hSw
    clear hSw
    go_simp
    try with_reducible rfl
  try simp only [Act.put, List.setIfInBounds_toArray, List.set_cons_zero, List.set_cons_succ]
  refine wpAnyH_take (i := 9) (oi := { dst := some 3, op := Op.assign (Operand.tmp 43), type := 4, pos := "outright.go:163", after := #[{ on := 7, ground := Ground.data }, { on := 8, ground := Ground.chain }, { on := 0, ground := Ground.phase }, { on := 1, ground := Ground.phase }, { on := 2, ground := Ground.phase }, { on := 3, ground := Ground.phase }, { on := 4, ground := Ground.phase }, { on := 5, ground := Ground.phase }, { on := 6, ground := Ground.phase }, { on := 7, ground := Ground.phase }, { on := 8, ground := Ground.phase }], guard := none }) (v := ?_) rfl (by kernel_rfl) (by kernel_rfl) (by kernel_rfl) (fun _ _ _ h => h) (Or.inl ⟨by rfl, ?_⟩) hHeld ?_
  rotate_left
  · intro w hSw
    clear hSw
    go_simp
    try with_reducible rfl
  try simp only [Act.put, List.setIfInBounds_toArray, List.set_cons_zero, List.set_cons_succ]
  refine wpAnyH_done (by kernel_rfl) ?_ _
  have hb := hHeld
  clear hHeld
  replace HB := Lib.hid (HB.out.trans (hb.mono HB.out.size))
  replace BX := Lib.hid (BX.out.grow' hb)
  clear hb
  clear HRX HLX HOX HGp2 Qp1 Qp2
  clear HLBX
  clear BX
  go_wp2_with fail
  refine (HBE.out none 0 [] .nilFunc freeP _ (ps_none _) (fits_free _) (by simp)).mono ?_
  rintro e w7 ⟨rfl, hb⟩
  rw [kn_none]
  replace HB := Lib.hid (HB.out.trans (hb.mono HB.out.size))
  clear hb
  go_wp2_with fail
  refine (HT.out _).mono ?_
  rintro e w8 ⟨b, q1, q2, q3, rfl, ht, hb⟩
  replace HB := Lib.hid (HB.out.trans (hb.mono HB.out.size))
  have H3 := Lib.hid ht
  clear hb ht HT
  have HR0 := Lib.hid H3.out.range0
  have HR2 := Lib.hid H3.out.range2
  have HLB := Lib.hid H3.out.1.lt
  have HO0 := Lib.hid (medP_ok H3.out.2.1.ok 5)
  have HO2 := Lib.hid (medP_ok H3.out.2.2.2.ok 9)
  have HQ1 := Lib.hid H3.out.2.1
  have HQ3 := Lib.hid H3.out.2.2.2
  go_wp2_with fail
  refine wp_region_held_drew (S := fun w' => Below w8.heap.size w8 w') (by kernel_rfl) (below_drewN (Below.refl _ _) 1) (fun hHeld => ?_)
  refine wpAnyH_take (i := 0) (oi := { dst := some 50, op := Op.move (Operand.tmp 6), type := 23, pos := "outright.go:166", after := #[], guard := none }) (v := ?_) rfl (by kernel_rfl) (by kernel_rfl) (by kernel_rfl) (fun _ _ _ h => h) (Or.inl ⟨by rfl, ?_⟩) hHeld ?_
  rotate_left
  · intro w hSw
    clear hSw
    go_simp
    try with_reducible rfl
  try simp only [Act.put, List.setIfInBounds_toArray, List.set_cons_zero, List.set_cons_succ]
  refine wpAnyH_take (i := 1) (oi := { dst := some 51, op := Op.indexAddr 23 (Operand.tmp 50) (Operand.const (Value.int IntKind.i64 0)), type := 0, pos := "outright.go:166", after := #[{ on := 0, ground := Ground.data }], guard := none }) (v := ?_) rfl (by kernel_rfl) (by kernel_rfl) (by kernel_rfl) (fun _ _ _ h => h) (Or.inl ⟨by rfl, ?_⟩) hHeld ?_
  rotate_left
  · intro w hSw
    clear hSw
    go_simp
    try with_reducible rfl
  try simp only [Act.put, List.setIfInBounds_toArray, List.set_cons_zero, List.set_cons_succ]
  refine wpAnyH_take (i := 2) (oi := { dst := some 52, op := Op.load 38 (Operand.tmp 51), type := 38, pos := "outright.go:166", after := #[{ on := 1, ground := Ground.data }], guard := none }) (v := .agg (Pt.cs (medP q1 5))) rfl (by kernel_rfl) (by kernel_rfl) (by kernel_rfl) (fun _ _ _ h => h) (yields_prange (by rfl) _ rfl b 0 (by rfl) (medP q1 5) (fun w h => rangeAt_below HR0.out h HLB.out)) hHeld ?_
  try simp only [Act.put, List.setIfInBounds_toArray, List.set_cons_zero, List.set_cons_succ]
  refine wpAnyH_take (i := 3) (oi := { dst := some 53, op := Op.move (Operand.tmp 6), type := 23, pos := "outright.go:166", after := #[], guard := none }) (v := ?_) rfl (by kernel_rfl) (by kernel_rfl) (by kernel_rfl) (fun _ _ _ h => h) (Or.inl ⟨by rfl, ?_⟩) hHeld ?_
  rotate_left
  · intro w hSw
    clear hSw
    go_simp
    try with_reducible rfl
  try simp only [Act.put, List.setIfInBounds_toArray, List.set_cons_zero, List.set_cons_succ]
  refine wpAnyH_take (i := 4) (oi := { dst := some 54, op := Op.indexAddr 23 (Operand.tmp 53) (Operand.const (Value.int IntKind.i64 2)), type := 0, pos := "outright.go:166", after := #[{ on := 3, ground := Ground.data }], guard := none }) (v := ?_) rfl (by kernel_rfl) (by kernel_rfl) (by kernel_rfl) (fun _ _ _ h => h) (Or.inl ⟨by rfl, ?_⟩) hHeld ?_
  rotate_left
  · intro w hSw
    clear hSw
    go_simp
    try with_reducible rfl
  try simp only [Act.put, List.setIfInBounds_toArray, List.set_cons_zero, List.set_cons_succ]
  refine wpAnyH_take (i := 5) (oi := { dst := some 55, op := Op.load 38 (Operand.tmp 54), type := 38, pos := "outright.go:166", after := #[{ on := 4, ground := Ground.data }], guard := none }) (v := .agg (Pt.cs (medP q3 9))) rfl (by kernel_rfl) (by kernel_rfl) (by kernel_rfl) (fun _ _ _ h => h) (yields_prange (by rfl) _ rfl b 58 (by rfl) (medP q3 9) (fun w h => rangeAt_below HR2.out h HLB.out)) hHeld ?_
  try simp only [Act.put, List.setIfInBounds_toArray, List.set_cons_zero, List.set_cons_succ]
  refine wpAnyH_ready (rs := [6]) (by kernel_rfl) (by simp) ?_
  refine AllReadyH.cons (o := { dst := some 56, op := Op.buildSlice 23 2 #[(0, Operand.tmp 52), (1, Operand.tmp 55)], type := 23, pos := "outright.go:166", after := #[{ on := 2, ground := Ground.data }, { on := 5, ground := Ground.data }], guard := none }) rfl (fun K hK => ?_) AllReadyH.nil
  refine wp_build_paths (by rfl) rfl [medP q1 5, medP q3 9] (by kernel_rfl) rfl (by decide) (by decide) ?_
  refine hK.out _ _ (hHeld.alloc hHeld.size _) (fun hHeld => ?_)
  clear hK K
  try simp only [Act.put, List.setIfInBounds_toArray, List.set_cons_zero, List.set_cons_succ]
  refine wpAnyH_ready (rs := [7]) (by kernel_rfl) (by simp) ?_
  refine AllReadyH.cons (o := { dst := some 57, op := Op.call { callee := Callee.value (Operand.func 12), args := #[Operand.tmp 56, Operand.const Value.nilFunc], argTypes := #[23, 41] }, type := 44, pos := "outright.go:166", after := #[{ on := 6, ground := Ground.data }], guard := none }) rfl (fun K hK => ?_) AllReadyH.nil
  go_simp
  refine (HBE.out _ 2 [medP q1 5, medP q3 9] .nilFunc freeP _ (rows_at (CellsAt.new _ _ _) (by simp) (two_ok ((HO0.out.below hHeld (Nat.le_refl _))) ((HO2.out.below hHeld (Nat.le_refl _))))) (fits_free _) (by simp)).mono ?_
  rintro e w9 ⟨rfl, hb6⟩
  rw [kn_b HQ1.out HQ3.out]
  go_wp2_with fail
  refine hK.out _ _ (hHeld.trans (hb6.mono hHeld.size)) (fun hHeld => ?_)
  clear hK K
  try simp only [Act.put, List.setIfInBounds_toArray, List.set_cons_zero, List.set_cons_succ]
  refine wpAnyH_take (i := 8) (oi := { dst := some 49, op := Op.move (Operand.tmp 57), type := 44, pos := "outright.go:166", after := #[{ on := 7, ground := Ground.data }], guard := none }) (v := ?_) rfl (by kernel_rfl) (by kernel_rfl) (by kernel_rfl) (fun _ _ _ h => h) (Or.inl ⟨by rfl, ?_⟩) hHeld ?_
  rotate_left
  · intro w hSw
    clear hSw
    go_simp
    try with_reducible rfl
  try simp only [Act.put, List.setIfInBounds_toArray, List.set_cons_zero, List.set_cons_succ]
  refine wpAnyH_take (i := 9) (oi := { dst := some 58, op := Op.extract (Operand.tmp 49) 0, type := 3, pos := "outright.go:166", after := #[{ on := 8, ground := Ground.data }], guard := none }) (v := ?_) rfl (by kernel_rfl) (by kernel_rfl) (by kernel_rfl) (fun _ _ _ h => h) (Or.inl ⟨by rfl, ?_⟩) hHeld ?_
  rotate_left
  · intro w hSw
    clear hSw
    go_simp
    try with_reducible rfl
  try simp only [Act.put, List.setIfInBounds_toArray, List.set_cons_zero, List.set_cons_succ]
  refine wpAnyH_take (i := 10) (oi := { dst := some 59, op := Op.extract (Operand.tmp 49) 1, type := 4, pos := "outright.go:166", after := #[{ on := 8, ground := Ground.data }, { on := 11, ground := Ground.gcOnly Departure.lateStores }], guard := none }) (v := ?_) rfl (by kernel_rfl) (by kernel_rfl) (by kernel_rfl) (fun _ _ _ h => h) (Or.inl ⟨by rfl, ?_⟩) hHeld ?_
  rotate_left
  · intro w hSw
    clear hSw
    go_simp
    try with_reducible rfl
  try simp only [Act.put, List.setIfInBounds_toArray, List.set_cons_zero, List.set_cons_succ]
  refine wpAnyH_take (i := 11) (oi := { dst := some 7, op := Op.assign (Operand.tmp 58), type := 3, pos := "outright.go:166", after := #[{ on := 9, ground := Ground.data }, { on := 7, ground := Ground.chain }, { on := 0, ground := Ground.phase }, { on := 1, ground := Ground.phase }, { on := 2, ground := Ground.phase }, { on := 3, ground := Ground.phase }, { on := 4, ground := Ground.phase }, { on := 5, ground := Ground.phase }, { on := 6, ground := Ground.phase }, { on := 7, ground := Ground.phase }, { on := 8, ground := Ground.phase }, { on := 9, ground := Ground.phase }, { on := 10, ground := Ground.textOnly Departure.lateStores }], guard := none }) (v := ?_) rfl (by kernel_rfl) (by kernel_rfl) (by kernel_rfl) (fun _ _ _ h => h) (Or.inl ⟨by rfl, ?_⟩) hHeld ?_
  rotate_left
  · intro w hSw
    clear hSw
    go_simp
    try with_reducible rfl
  try simp only [Act.put, List.setIfInBounds_toArray, List.set_cons_zero, List.set_cons_succ]
  refine wpAnyH_take (i := 12) (oi := { dst := some 8, op := Op.assign (Operand.tmp 59), type := 4, pos := "outright.go:166", after := #[{ on := 10, ground := Ground.data }, { on := 11, ground := Ground.chain }, { on := 0, ground := Ground.phase }, { on := 1, ground := Ground.phase }, { on := 2, ground := Ground.phase }, { on := 3, ground := Ground.phase }, { on := 4, ground := Ground.phase }, { on := 5, ground := Ground.phase }, { on := 6, ground := Ground.phase }, { on := 7, ground := Ground.phase }, { on := 8, ground := Ground.phase }, { on := 9, ground := Ground.phase }, { on := 10, ground := Ground.phase }, { on := 11, ground := Ground.phase }], guard := none }) (v := ?_) rfl (by kernel_rfl) (by kernel_rfl) (by kernel_rfl) (fun _ _ _ h => h) (Or.inl ⟨by rfl, ?_⟩) hHeld ?_
  rotate_left
  · intro w hSw
    clear hSw
    go_simp
    try with_reducible rfl
  try simp only [Act.put, List.setIfInBounds_toArray, List.set_cons_zero, List.set_cons_succ]
  refine wpAnyH_done (by kernel_rfl) ?_ _
  have hb := hHeld
  clear hHeld
  replace HB := Lib.hid (HB.out.trans (hb.mono HB.out.size))
  replace H3 := Lib.hid (H3.out.below hb)
  clear hb
  clear HR0 HR2 HLB HO0 HO2 HQ1 HQ3
  have HKO := Lib.hid (kn_o H3.out.2.1 H3.out.2.2.1 H3.out.2.2.2)
  go_wp2_with fail
  refine (HORD.out (some ⟨b, 0, none⟩) 3 [medP q1 5, medP q2 3, medP q3 9] .nilFunc freeP _ H3.out.ps (fits_free _) (by simp)).mono ?_
  rintro e w10 ⟨v, rfl, hv, hb⟩
  rw [HKO.out] at hv
  obtain ⟨A, c, rfl, hn⟩ := hv.num
  have HN := Lib.hid hn
  replace HB := Lib.hid (HB.out.trans (hb.mono HB.out.size))
  replace H3 := Lib.hid (H3.out.below hb)
  have hc9 := hn.len
  have hc8 : c ≤ 9223372036854775807 := hn.cap
  clear hv hb hn
  simp only [List.length_cons, List.length_nil]
  go_wp2_with fail
  refine (HAL.out A (some ⟨w10.heap.size, 0, none⟩) c 3 (toI [1, 0, 2]) (toI [1, 0, 2]) _ (HN.out.below ((Below.refl _ _).alloc (Nat.le_refl _) _) (Nat.le_refl _)) (NumAt.new (xs := [1, 0, 2]) (CellsAt.new w10 #[.int .i64 1, .int .i64 0, .int .i64 2] 3) rfl (by decide))).mono ?_
  rintro e w11 ⟨rfl, hb1⟩
  rw [show decide (toI [1, 0, 2] = toI [1, 0, 2]) = true from decide_eq_true rfl]
  have hb := below_step hb1
  replace HB := Lib.hid (HB.out.trans (hb.mono HB.out.size))
  replace H3 := Lib.hid (H3.out.below hb)
  clear hb1 hb hc9 hc8 HN
  go_wp2_with fail
  refine (HSOM.out (some ⟨b, 0, none⟩) 3 [medP q1 5, medP q2 3, medP q3 9] 2 .nilFunc freeP _ H3.out.ps (fits_free _) (by simp)).mono ?_
  rintro e w12 ⟨v, rfl, hv, hb⟩
  rw [HKO.out, kn_sa] at hv
  obtain ⟨A, c, rfl, hn⟩ := hv.num
  have HN := Lib.hid hn
  replace HB := Lib.hid (HB.out.trans (hb.mono HB.out.size))
  replace H3 := Lib.hid (H3.out.below hb)
  have hc9 := hn.len
  have hc8 : c ≤ 9223372036854775807 := hn.cap
  clear hv hb hn
  simp only [List.length_cons, List.length_nil]
  go_wp2_with fail
  refine (HAL.out A (some ⟨w12.heap.size, 0, none⟩) c 2 (toI [1, 0]) (toI [1, 0]) _ (HN.out.below ((Below.refl _ _).alloc (Nat.le_refl _) _) (Nat.le_refl _)) (NumAt.new (xs := [1, 0]) (CellsAt.new w12 #[.int .i64 1, .int .i64 0] 3) rfl (by decide))).mono ?_
  rintro e w13 ⟨rfl, hb1⟩
  rw [show decide (toI [1, 0] = toI [1, 0]) = true from decide_eq_true rfl]
  have hb := below_step hb1
  replace HB := Lib.hid (HB.out.trans (hb.mono HB.out.size))
  replace H3 := Lib.hid (H3.out.below hb)
  clear hb1 hb hc9 hc8 HN
  go_wp2_with fail
  refine (HSOM.out (some ⟨b, 0, none⟩) 3 [medP q1 5, medP q2 3, medP q3 9] 0 .nilFunc freeP _ H3.out.ps (fits_free _) (by simp)).mono ?_
  rintro e w14 ⟨v, rfl, hv, hb⟩
  rw [HKO.out, kn_sb] at hv
  obtain ⟨A, c, rfl, hn⟩ := hv.num
  have HN := Lib.hid hn
  replace HB := Lib.hid (HB.out.trans (hb.mono HB.out.size))
  replace H3 := Lib.hid (H3.out.below hb)
  have hc9 := hn.len
  have hc8 : c ≤ 9223372036854775807 := hn.cap
  clear hv hb hn
  simp only [List.length_cons, List.length_nil]
  clear hc9 hc8 HN
  go_wp2_with fail
  refine (HSOM.out (some ⟨b, 0, none⟩) 3 [medP q1 5, medP q2 3, medP q3 9] (-1) .nilFunc freeP _ H3.out.ps (fits_free _) (by simp)).mono ?_
  rintro e w15 ⟨v, rfl, hv, hb⟩
  rw [HKO.out, kn_sc] at hv
  obtain ⟨A, c, rfl, hn⟩ := hv.num
  have HN := Lib.hid hn
  replace HB := Lib.hid (HB.out.trans (hb.mono HB.out.size))
  replace H3 := Lib.hid (H3.out.below hb)
  have hc9 := hn.len
  have hc8 : c ≤ 9223372036854775807 := hn.cap
  clear hv hb hn
  simp only [List.length_cons, List.length_nil]
  clear hc9 hc8 HN
  go_wp2_with fail
  refine (HSOM.out (some ⟨b, 0, none⟩) 3 [medP q1 5, medP q2 3, medP q3 9] 9 .nilFunc freeP _ H3.out.ps (fits_free _) (by simp)).mono ?_
  rintro e w16 ⟨v, rfl, hv, hb⟩
  rw [HKO.out, kn_sd] at hv
  obtain ⟨A, c, rfl, hn⟩ := hv.num
  have HN := Lib.hid hn
  replace HB := Lib.hid (HB.out.trans (hb.mono HB.out.size))
  replace H3 := Lib.hid (H3.out.below hb)
  have hc9 := hn.len
  have hc8 : c ≤ 9223372036854775807 := hn.cap
  clear hv hb hn
  simp only [List.length_cons, List.length_nil]
  clear hc9 hc8 HN
  clear HKO
  clear H3
  go_wp2_with fail
  refine (HP.out ⟨#[]⟩ 0 [1, 1, 1] w16.heap.size 3 _ _ _ (CellsAt.new w16 #[.int .u32 1, .int .u32 1, .int .u32 1] 28) rfl rfl (by decide) (by decide) (by decide) (by decide)).mono ?_
  rintro e w17 ⟨p3, rfl, ho, hb1⟩
  have Qp3 := Lib.hid ho
  have hb := below_step hb1
  replace HB := Lib.hid (HB.out.trans (hb.mono HB.out.size))
  have OKp3 : Hid (PtOk w17 p3) := ho.ok
  clear ho hb1 hb
  have HLOWN : Hid (w.heap.size ≤ w17.heap.size) := HB.out.size
  go_wp2_with (with_reducible show wpList _ _ _ (_ :: _) _ _; refine wpList_box_new rfl (.tmp 9) (.tmp 102) rfl rfl p3 rfl rfl OKp3 ?_)
  intro w18 OWN hbn
  replace HB := Lib.hid (HB.out.trans (hbn.out.mono HB.out.size))
  clear hbn
  clear OKp3
  have HE : Hid ((Pt.cs (p3)).setIfInBounds 22 (.int .i64 1) = Pt.cs (kindP 1 p3)) := by
    show _ = _
    kernel_rfl
  have HI : Hid (22 < (Pt.cs (p3)).size) := by
    show _ < _
    rw [Pt.cs_size]
    decide
  have HC := Lib.hid OWN.out.cells
  go_wp2_with (with_reducible show wpList _ _ _ (_ :: _) _ _; refine wpList_cell_set rfl 3 (.tmp 104) (.const (.int .i64 1)) rfl 22 rfl (.int .i64 1) rfl (by kernel_rfl) HC (Pt.cs (kindP 1 p3)) HE HI rfl ?_)
  intro w19 HCN hk hb
  replace HB := Lib.hid (HB.out.trans (hb.out.mono HLOWN.out))
  replace OWN := Lib.hid (OWN.out.set HCN.out hb.out (fun U h => kindP_ok h))
  clear HE HI HC HCN hk hb
  go_wp2_with fail
  refine (HP.out ⟨#[97]⟩ 1 [1] w19.heap.size 1 _ _ _ (CellsAt.new w19 #[.int .u32 1] 28) rfl rfl (by decide) (by decide) (by decide) (by decide)).mono ?_
  rintro e w20 ⟨p4, rfl, ho, hb1⟩
  have Qp4 := Lib.hid ho
  have hb := below_step hb1
  replace HB := Lib.hid (HB.out.trans (hb.mono HB.out.size))
  replace OWN := Lib.hid (OWN.out.grow' hb)
  have OKp4 : Hid (PtOk w20 p4) := ho.ok
  clear ho hb1 hb
  have HLINN : Hid (w.heap.size ≤ w20.heap.size) := HB.out.size
  have LTOWNINN : Hid (w17.heap.size < w20.heap.size) := OWN.out.lt
  go_wp2_with (with_reducible show wpList _ _ _ (_ :: _) _ _; refine wpList_box_new rfl (.tmp 10) (.tmp 106) rfl rfl p4 rfl rfl OKp4 ?_)
  intro w21 INN hbn
  replace HB := Lib.hid (HB.out.trans (hbn.out.mono HB.out.size))
  replace OWN := Lib.hid (OWN.out.grow' hbn.out)
  clear hbn
  clear OKp4
  have HE : Hid ((Pt.cs (p4)).setIfInBounds 22 (.int .i64 4) = Pt.cs (kindP 4 p4)) := by
    show _ = _
    kernel_rfl
  have HI : Hid (22 < (Pt.cs (p4)).size) := by
    show _ < _
    rw [Pt.cs_size]
    decide
  have HC := Lib.hid INN.out.cells
  go_wp2_with (with_reducible show wpList _ _ _ (_ :: _) _ _; refine wpList_cell_set rfl 3 (.tmp 108) (.const (.int .i64 4)) rfl 22 rfl (.int .i64 4) rfl (by kernel_rfl) HC (Pt.cs (kindP 4 p4)) HE HI rfl ?_)
  intro w22 HCN hk hb
  replace HB := Lib.hid (HB.out.trans (hb.out.mono HLINN.out))
  replace OWN := Lib.hid (OWN.out.grow hb.out LTOWNINN.out)
  replace INN := Lib.hid (INN.out.set HCN.out hb.out (fun U h => kindP_ok h))
  clear HE HI HC HCN hk hb
  clear LTOWNINN
  go_wp2_with fail
  refine (HP.out ⟨#[97]⟩ 1 [1] w22.heap.size 1 _ _ _ (CellsAt.new w22 #[.int .u32 1] 28) rfl rfl (by decide) (by decide) (by decide) (by decide)).mono ?_
  rintro e w23 ⟨p5, rfl, ho, hb1⟩
  have Qp5 := Lib.hid ho
  have hb := below_step hb1
  replace HB := Lib.hid (HB.out.trans (hb.mono HB.out.size))
  replace OWN := Lib.hid (OWN.out.grow' hb)
  replace INN := Lib.hid (INN.out.grow' hb)
  have OKp5 : Hid (PtOk w23 p5) := ho.ok
  clear ho hb1 hb
  go_wp2_with fail
  refine (HP.out ⟨#[98]⟩ 2 [1] w23.heap.size 1 _ _ _ (CellsAt.new w23 #[.int .u32 1] 28) rfl rfl (by decide) (by decide) (by decide) (by decide)).mono ?_
  rintro e w24 ⟨p6, rfl, ho, hb1⟩
  have Qp6 := Lib.hid ho
  have hb := below_step hb1
  replace HB := Lib.hid (HB.out.trans (hb.mono HB.out.size))
  replace OWN := Lib.hid (OWN.out.grow' hb)
  replace INN := Lib.hid (INN.out.grow' hb)
  replace OKp5 := Lib.hid (PtOk.below OKp5.out hb (Nat.le_refl _))
  have OKp6 : Hid (PtOk w24 p6) := ho.ok
  clear ho hb1 hb
  have HLXX : Hid (w.heap.size ≤ w24.heap.size) := HB.out.size
  have HLYY : Hid (w.heap.size ≤ w24.heap.size + 1) := Nat.le_succ_of_le HLXX.out
  have LTOWNXX : Hid (w17.heap.size < w24.heap.size) := OWN.out.lt
  have LTOWNYY : Hid (w17.heap.size < w24.heap.size + 1) := Nat.lt_succ_of_lt LTOWNXX.out
  have LTINNXX : Hid (w20.heap.size < w24.heap.size) := INN.out.lt
  have LTINNYY : Hid (w20.heap.size < w24.heap.size + 1) := Nat.lt_succ_of_lt LTINNXX.out
  have HZA : Hid (CellsAt ((w24.alloc (.cells zeroPt 38)).alloc (.cells zeroPt 38)) w24.heap.size zeroPt 38) := (CellsAt.new _ _ _).alloc _
  have HZB : Hid (CellsAt ((w24.alloc (.cells zeroPt 38)).alloc (.cells zeroPt 38)) (w24.heap.size + 1) zeroPt 38) := by
    have h := CellsAt.new (w24.alloc (.cells zeroPt 38)) zeroPt 38
    rwa [show (w24.alloc (.cells zeroPt 38)).heap.size = w24.heap.size + 1 by simp] at h
  have HZO : Hid (Below w24.heap.size w24 ((w24.alloc (.cells zeroPt 38)).alloc (.cells zeroPt 38))) := ((Below.refl _ _).alloc (Nat.le_refl _) _).alloc (by simp) _
  have HOA := Lib.hid OKp5.out.pones
  have HOB := Lib.hid OKp6.out.pones
  go_wp2_with (with_reducible show wpList _ _ _ (_ :: _) _ _; refine wpList_box_over rfl (.tmp 11) (.tmp 110) rfl rfl p5 rfl rfl HZA HOA ?_)
  intro w25 HCA hka hba
  replace HZB : Hid (CellsAt w25 (w24.heap.size + 1) zeroPt 38) := (hka.out _ (by omega)).trans HZB.out
  replace HZO : Hid (Below w24.heap.size w24 w25) := HZO.out.trans hba.out
  clear HZA hka hba
  go_wp2_with (with_reducible show wpList _ _ _ (_ :: _) _ _; refine wpList_box_over rfl (.tmp 12) (.tmp 112) rfl rfl p6 rfl rfl HZB HOB ?_)
  intro w26 HCB hkb hbb
  replace HZO : Hid (Below w24.heap.size w24 w26) := HZO.out.trans (hbb.out.mono (Nat.le_succ _))
  have XX : Hid (Box w26 w24.heap.size w24.heap.size p5) := ⟨(hkb.out _ (by omega)).trans HCA.out, (PtIn.new OKp5.out).grow HZO.out (Nat.le_refl _), Nat.le_refl _⟩
  have YY : Hid (Box w26 w24.heap.size (w24.heap.size + 1) p6) := ⟨HCB.out, (PtIn.new OKp6.out).grow HZO.out (Nat.le_refl _), Nat.le_succ _⟩
  replace HB := Lib.hid (HB.out.trans (HZO.out.mono HB.out.size))
  replace OWN := Lib.hid (OWN.out.grow' HZO.out)
  replace INN := Lib.hid (INN.out.grow' HZO.out)
  clear HZO HZB HCA HCB hkb hbb HOA HOB
  clear OKp5
  clear OKp6
  have HE : Hid ((Pt.cs (p5)).setIfInBounds 8 (.string ⟨#[10, 0, 0, 1]⟩) = Pt.cs (nextP ⟨#[10, 0, 0, 1]⟩ p5)) := by
    show _ = _
    kernel_rfl
  have HI : Hid (8 < (Pt.cs (p5)).size) := by
    show _ < _
    rw [Pt.cs_size]
    decide
  have HC := Lib.hid XX.out.cells
  go_wp2_with (with_reducible show wpList _ _ _ (_ :: _) _ _; refine wpList_cell_set rfl 9 (.tmp 114) (.const (.string ⟨#[10, 0, 0, 1]⟩)) rfl 8 rfl (.string ⟨#[10, 0, 0, 1]⟩) rfl (by kernel_rfl) HC (Pt.cs (nextP ⟨#[10, 0, 0, 1]⟩ p5)) HE HI rfl ?_)
  intro w27 HCN hk hb
  replace HB := Lib.hid (HB.out.trans (hb.out.mono HLXX.out))
  replace OWN := Lib.hid (OWN.out.grow hb.out LTOWNXX.out)
  replace INN := Lib.hid (INN.out.grow hb.out LTINNXX.out)
  replace YY := Lib.hid (YY.out.kept hk.out hb.out (Nat.le_refl _) (by omega))
  replace XX := Lib.hid (XX.out.set HCN.out hb.out (fun U h => nextP_ok h))
  clear HE HI HC HCN hk hb
  have HE : Hid ((Pt.cs (p6)).setIfInBounds 8 (.string ⟨#[10, 0, 0, 0]⟩) = Pt.cs (nextP ⟨#[10, 0, 0, 0]⟩ p6)) := by
    show _ = _
    kernel_rfl
  have HI : Hid (8 < (Pt.cs (p6)).size) := by
    show _ < _
    rw [Pt.cs_size]
    decide
  have HC := Lib.hid YY.out.cells
  go_wp2_with (with_reducible show wpList _ _ _ (_ :: _) _ _; refine wpList_cell_set rfl 9 (.tmp 116) (.const (.string ⟨#[10, 0, 0, 0]⟩)) rfl 8 rfl (.string ⟨#[10, 0, 0, 0]⟩) rfl (by kernel_rfl) HC (Pt.cs (nextP ⟨#[10, 0, 0, 0]⟩ p6)) HE HI rfl ?_)
  intro w28 HCN hk hb
  replace HB := Lib.hid (HB.out.trans (hb.out.mono HLYY.out))
  replace OWN := Lib.hid (OWN.out.grow hb.out LTOWNYY.out)
  replace INN := Lib.hid (INN.out.grow hb.out LTINNYY.out)
  replace XX := Lib.hid (XX.out.kept hk.out hb.out (Nat.le_succ _) (by omega))
  replace YY := Lib.hid (YY.out.set HCN.out hb.out (fun U h => nextP_ok h))
  clear HE HI HC HCN hk hb
  have HRX := Lib.hid OWN.out.cells.range
  have HLX := Lib.hid OWN.out.lt
  have HOX := Lib.hid OWN.out.ok
  go_wp2_with fail
  refine wp_region_held_drew (S := fun w' => Below w28.heap.size w28 w') (by kernel_rfl) (below_drewN (Below.refl _ _) 1) (fun hHeld => ?_)
  refine wpAnyH_take (i := 2) (oi := { dst := some 120, op := Op.load 38 (Operand.tmp 9), type := 38, pos := "outright.go:177", after := #[], guard := none }) (v := .agg (Pt.cs (kindP 1 p3))) rfl (by kernel_rfl) (by kernel_rfl) (by kernel_rfl) (fun _ _ _ h => h) (yields_prange (by rfl) _ rfl w17.heap.size 0 (by rfl) (kindP 1 p3) (fun w h => rangeAt_below HRX.out h HLX.out)) hHeld ?_
  try simp only [Act.put, List.setIfInBounds_toArray, List.set_cons_zero, List.set_cons_succ]
  refine wpAnyH_ready (rs := [0]) (by kernel_rfl) (by simp) ?_
  refine AllReadyH.cons (o := { dst := some 118, op := Op.buildSlice 30 1 #[(0, Operand.const (Value.int IntKind.u32 1))], type := 30, pos := "outright.go:177", after := #[], guard := none }) rfl (fun K hK => ?_) AllReadyH.nil
  go_simp
  skip
  refine hK.out _ _ (hHeld.alloc hHeld.size _) (fun hHeld => ?_)
  clear hK K
  try simp only [Act.put, List.setIfInBounds_toArray, List.set_cons_zero, List.set_cons_succ]
  refine wpAnyH_ready (rs := [1]) (by kernel_rfl) (by simp) ?_
  refine AllReadyH.cons (o := { dst := some 119, op := Op.call { callee := Callee.value (Operand.func 30), args := #[Operand.const (Value.string { data := #[97] }), Operand.const (Value.int IntKind.u32 1), Operand.tmp 118], argTypes := #[9, 28, 30] }, type := 38, pos := "outright.go:177", after := #[{ on := 0, ground := Ground.data }], guard := none }) rfl (fun K hK => ?_) AllReadyH.nil
  go_simp
  refine (HP.out ⟨#[97]⟩ 1 [1] w28.heap.size 1 _ _ _ (CellsAt.new w28.drew #[.int .u32 1] 28) rfl rfl (by decide) (by decide) (by decide) (by decide)).mono ?_
  rintro e w29 ⟨p7, rfl, ho, hb1⟩
  have Qp7 := Lib.hid ho
  have HGp7 := Lib.hid hb1
  clear ho hb1
  go_wp2_with fail
  refine hK.out _ _ (hHeld.trans (HGp7.out.mono hHeld.size)) (fun hHeld => ?_)
  clear hK K
  try simp only [Act.put, List.setIfInBounds_toArray, List.set_cons_zero, List.set_cons_succ]
  refine wpAnyH_ready (rs := [3]) (by kernel_rfl) (by simp) ?_
  refine AllReadyH.cons (o := { dst := some 121, op := Op.buildSlice 23 2 #[(0, Operand.tmp 119), (1, Operand.tmp 120)], type := 23, pos := "outright.go:177", after := #[{ on := 1, ground := Ground.data }, { on := 2, ground := Ground.data }], guard := none }) rfl (fun K hK => ?_) AllReadyH.nil
  refine wp_build_paths (by rfl) rfl [p7, kindP 1 p3] (by kernel_rfl) rfl (by decide) (by decide) ?_
  refine hK.out _ _ (hHeld.alloc hHeld.size _) (fun hHeld => ?_)
  clear hK K
  try simp only [Act.put, List.setIfInBounds_toArray, List.set_cons_zero, List.set_cons_succ]
  refine wpAnyH_ready (rs := [4]) (by kernel_rfl) (by simp) ?_
  refine AllReadyH.cons (o := { dst := some 122, op := Op.call { callee := Callee.value (Operand.func 12), args := #[Operand.tmp 121, Operand.const Value.nilFunc], argTypes := #[23, 41] }, type := 44, pos := "outright.go:177", after := #[{ on := 3, ground := Ground.data }, { on := 1, ground := Ground.chain }], guard := none }) rfl (fun K hK => ?_) AllReadyH.nil
  go_simp
  refine (HBE.out _ 2 [p7, kindP 1 p3] .nilFunc freeP _ (rows_at (CellsAt.new _ _ _) (by simp) (two_ok ((Qp7.out.ok.below ((Below.refl _ _).alloc (Nat.le_refl _) _) (Nat.le_refl _))) ((HOX.out.below hHeld (Nat.le_refl _))))) (fits_free _) (by simp)).mono ?_
  rintro e w30 ⟨rfl, hb6⟩
  rw [kn_c Qp7.out Qp3.out]
  go_wp2_with fail
  refine hK.out _ _ (hHeld.trans (hb6.mono hHeld.size)) (fun hHeld => ?_)
  clear hK K
  try simp only [Act.put, List.setIfInBounds_toArray, List.set_cons_zero, List.set_cons_succ]
  refine wpAnyH_take (i := 5) (oi := { dst := some 117, op := Op.move (Operand.tmp 122), type := 44, pos := "outright.go:177", after := #[{ on := 4, ground := Ground.data }], guard := none }) (v := ?_) rfl (by kernel_rfl) (by kernel_rfl) (by kernel_rfl) (fun _ _ _ h => h) (Or.inl ⟨by rfl, ?_⟩) hHeld ?_
  rotate_left
  · intro w hSw
    clear hSw
    go_simp
    try with_reducible rfl
  try simp only [Act.put, List.setIfInBounds_toArray, List.set_cons_zero, List.set_cons_succ]
  refine wpAnyH_take (i := 6) (oi := { dst := some 123, op := Op.extract (Operand.tmp 117) 0, type := 3, pos := "outright.go:177", after := #[{ on := 5, ground := Ground.data }], guard := none }) (v := ?_) rfl (by kernel_rfl) (by kernel_rfl) (by kernel_rfl) (fun _ _ _ h => h) (Or.inl ⟨by rfl, ?_⟩) hHeld ?_
  rotate_left
  · intro w hSw
    clear hSw
    go_simp
    try with_reducible rfl
  try simp only [Act.put, List.setIfInBounds_toArray, List.set_cons_zero, List.set_cons_succ]
  refine wpAnyH_take (i := 7) (oi := { dst := some 124, op := Op.extract (Operand.tmp 117) 1, type := 4, pos := "outright.go:177", after := #[{ on := 5, ground := Ground.data }, { on := 8, ground := Ground.gcOnly Departure.lateStores }], guard := none }) (v := ?_) rfl (by kernel_rfl) (by kernel_rfl) (by kernel_rfl) (fun _ _ _ h => h) (Or.inl ⟨by rfl, ?_⟩) hHeld ?_
  rotate_left
  · intro w hSw
    clear hSw
    go_simp
    try with_reducible rfl
  try simp only [Act.put, List.setIfInBounds_toArray, List.set_cons_zero, List.set_cons_succ]
  refine wpAnyH_take (i := 8) (oi := { dst := some 13, op := Op.assign (Operand.tmp 123), type := 3, pos := "outright.go:177", after := #[{ on := 6, ground := Ground.data }, { on := 4, ground := Ground.chain }, { on := 0, ground := Ground.phase }, { on := 1, ground := Ground.phase }, { on := 2, ground := Ground.phase }, { on := 3, ground := Ground.phase }, { on := 4, ground := Ground.phase }, { on := 5, ground := Ground.phase }, { on := 6, ground := Ground.phase }, { on := 7, ground := Ground.textOnly Departure.lateStores }], guard := none }) (v := ?_) rfl (by kernel_rfl) (by kernel_rfl) (by kernel_rfl) (fun _ _ _ h => h) (Or.inl ⟨by rfl, ?_⟩) hHeld ?_
  rotate_left
  · intro w hSw
    clear hSw
    go_simp
    try with_reducible rfl
  try simp only [Act.put, List.setIfInBounds_toArray, List.set_cons_zero, List.set_cons_succ]
  refine wpAnyH_take (i := 9) (oi := { dst := some 14, op := Op.assign (Operand.tmp 124), type := 4, pos := "outright.go:177", after := #[{ on := 7, ground := Ground.data }, { on := 8, ground := Ground.chain }, { on := 0, ground := Ground.phase }, { on := 1, ground := Ground.phase }, { on := 2, ground := Ground.phase }, { on := 3, ground := Ground.phase }, { on := 4, ground := Ground.phase }, { on := 5, ground := Ground.phase }, { on := 6, ground := Ground.phase }, { on := 7, ground := Ground.phase }, { on := 8, ground := Ground.phase }], guard := none }) (v := ?_) rfl (by kernel_rfl) (by kernel_rfl) (by kernel_rfl) (fun _ _ _ h => h) (Or.inl ⟨by rfl, ?_⟩) hHeld ?_
  rotate_left
  · intro w hSw
    clear hSw
    go_simp
    try with_reducible rfl
  try simp only [Act.put, List.setIfInBounds_toArray, List.set_cons_zero, List.set_cons_succ]
  refine wpAnyH_done (by kernel_rfl) ?_ _
  have hb := hHeld
  clear hHeld
  replace HB := Lib.hid (HB.out.trans (hb.mono HB.out.size))
  replace OWN := Lib.hid (OWN.out.grow' hb)
  replace INN := Lib.hid (INN.out.grow' hb)
  replace XX := Lib.hid (XX.out.grow' hb)
  replace YY := Lib.hid (YY.out.grow' hb)
  clear hb
  clear HRX HLX HOX HGp7 Qp7
  have HRX := Lib.hid INN.out.cells.range
  have HLX := Lib.hid INN.out.lt
  have HOX := Lib.hid INN.out.ok
  go_wp2_with fail
  refine wp_region_held_drew (S := fun w' => Below w30.heap.size w30 w') (by kernel_rfl) (below_drewN (Below.refl _ _) 1) (fun hHeld => ?_)
  refine wpAnyH_take (i := 0) (oi := { dst := some 126, op := Op.load 38 (Operand.tmp 10), type := 38, pos := "outright.go:178", after := #[], guard := none }) (v := .agg (Pt.cs (kindP 4 p4))) rfl (by kernel_rfl) (by kernel_rfl) (by kernel_rfl) (fun _ _ _ h => h) (yields_prange (by rfl) _ rfl w20.heap.size 0 (by rfl) (kindP 4 p4) (fun w h => rangeAt_below HRX.out h HLX.out)) hHeld ?_
  try simp only [Act.put, List.setIfInBounds_toArray, List.set_cons_zero, List.set_cons_succ]
  refine wpAnyH_ready (rs := [1]) (by kernel_rfl) (by simp) ?_
  refine AllReadyH.cons (o := { dst := some 127, op := Op.buildSlice 30 1 #[(0, Operand.const (Value.int IntKind.u32 1))], type := 30, pos := "outright.go:178", after := #[], guard := none }) rfl (fun K hK => ?_) AllReadyH.nil
  go_simp
  skip
  refine hK.out _ _ (hHeld.alloc hHeld.size _) (fun hHeld => ?_)
  clear hK K
  try simp only [Act.put, List.setIfInBounds_toArray, List.set_cons_zero, List.set_cons_succ]
  refine wpAnyH_ready (rs := [2]) (by kernel_rfl) (by simp) ?_
  refine AllReadyH.cons (o := { dst := some 128, op := Op.call { callee := Callee.value (Operand.func 30), args := #[Operand.const (Value.string { data := #[98] }), Operand.const (Value.int IntKind.u32 2), Operand.tmp 127], argTypes := #[9, 28, 30] }, type := 38, pos := "outright.go:178", after := #[{ on := 1, ground := Ground.data }], guard := none }) rfl (fun K hK => ?_) AllReadyH.nil
  go_simp
  refine (HP.out ⟨#[98]⟩ 2 [1] w30.heap.size 1 _ _ _ (CellsAt.new w30.drew #[.int .u32 1] 28) rfl rfl (by decide) (by decide) (by decide) (by decide)).mono ?_
  rintro e w31 ⟨p8, rfl, ho, hb1⟩
  have Qp8 := Lib.hid ho
  have HGp8 := Lib.hid hb1
  clear ho hb1
  go_wp2_with fail
  refine hK.out _ _ (hHeld.trans (HGp8.out.mono hHeld.size)) (fun hHeld => ?_)
  clear hK K
  try simp only [Act.put, List.setIfInBounds_toArray, List.set_cons_zero, List.set_cons_succ]
  refine wpAnyH_ready (rs := [3]) (by kernel_rfl) (by simp) ?_
  refine AllReadyH.cons (o := { dst := some 129, op := Op.buildSlice 23 2 #[(0, Operand.tmp 126), (1, Operand.tmp 128)], type := 23, pos := "outright.go:178", after := #[{ on := 0, ground := Ground.data }, { on := 2, ground := Ground.data }], guard := none }) rfl (fun K hK => ?_) AllReadyH.nil
  refine wp_build_paths (by rfl) rfl [kindP 4 p4, p8] (by kernel_rfl) rfl (by decide) (by decide) ?_
  refine hK.out _ _ (hHeld.alloc hHeld.size _) (fun hHeld => ?_)
  clear hK K
  try simp only [Act.put, List.setIfInBounds_toArray, List.set_cons_zero, List.set_cons_succ]
  refine wpAnyH_ready (rs := [4]) (by kernel_rfl) (by simp) ?_
  refine AllReadyH.cons (o := { dst := some 130, op := Op.call { callee := Callee.value (Operand.func 12), args := #[Operand.tmp 129, Operand.const Value.nilFunc], argTypes := #[23, 41] }, type := 44, pos := "outright.go:178", after := #[{ on := 3, ground := Ground.data }, { on := 2, ground := Ground.chain }], guard := none }) rfl (fun K hK => ?_) AllReadyH.nil
  go_simp
  refine (HBE.out _ 2 [kindP 4 p4, p8] .nilFunc freeP _ (rows_at (CellsAt.new _ _ _) (by simp) (two_ok ((HOX.out.below hHeld (Nat.le_refl _))) ((Qp8.out.ok.below ((Below.refl _ _).alloc (Nat.le_refl _) _) (Nat.le_refl _))))) (fits_free _) (by simp)).mono ?_
  rintro e w32 ⟨rfl, hb6⟩
  rw [kn_d Qp4.out Qp8.out]
  go_wp2_with fail
  refine hK.out _ _ (hHeld.trans (hb6.mono hHeld.size)) (fun hHeld => ?_)
  clear hK K
  try simp only [Act.put, List.setIfInBounds_toArray, List.set_cons_zero, List.set_cons_succ]
  refine wpAnyH_take (i := 5) (oi := { dst := some 125, op := Op.move (Operand.tmp 130), type := 44, pos := "outright.go:178", after := #[{ on := 4, ground := Ground.data }], guard := none }) (v := ?_) rfl (by kernel_rfl) (by kernel_rfl) (by kernel_rfl) (fun _ _ _ h => h) (Or.inl ⟨by rfl, ?_⟩) hHeld ?_
  rotate_left
  · intro w hSw
    clear hSw
    go_simp
    try with_reducible rfl
  try simp only [Act.put, List.setIfInBounds_toArray, List.set_cons_zero, List.set_cons_succ]
  refine wpAnyH_take (i := 6) (oi := { dst := some 131, op := Op.extract (Operand.tmp 125) 0, type := 3, pos := "outright.go:178", after := #[{ on := 5, ground := Ground.data }], guard := none }) (v := ?_) rfl (by kernel_rfl) (by kernel_rfl) (by kernel_rfl) (fun _ _ _ h => h) (Or.inl ⟨by rfl, ?_⟩) hHeld ?_
  rotate_left
  · intro w hSw
    clear hSw
    go_simp
    try with_reducible rfl
  try simp only [Act.put, List.setIfInBounds_toArray, List.set_cons_zero, List.set_cons_succ]
  refine wpAnyH_take (i := 7) (oi := { dst := some 132, op := Op.extract (Operand.tmp 125) 1, type := 4, pos := "outright.go:178", after := #[{ on := 5, ground := Ground.data }, { on := 8, ground := Ground.gcOnly Departure.lateStores }], guard := none }) (v := ?_) rfl (by kernel_rfl) (by kernel_rfl) (by kernel_rfl) (fun _ _ _ h => h) (Or.inl ⟨by rfl, ?_⟩) hHeld ?_
  rotate_left
  · intro w hSw
    clear hSw
    go_simp
    try with_reducible rfl
  try simp only [Act.put, List.setIfInBounds_toArray, List.set_cons_zero, List.set_cons_succ]
  refine wpAnyH_take (i := 8) (oi := { dst := some 15, op := Op.assign (Operand.tmp 131), type := 3, pos := "outright.go:178", after := #[{ on := 6, ground := Ground.data }, { on := 4, ground := Ground.chain }, { on := 0, ground := Ground.phase }, { on := 1, ground := Ground.phase }, { on := 2, ground := Ground.phase }, { on := 3, ground := Ground.phase }, { on := 4, ground := Ground.phase }, { on := 5, ground := Ground.phase }, { on := 6, ground := Ground.phase }, { on := 7, ground := Ground.textOnly Departure.lateStores }], guard := none }) (v := ?_) rfl (by kernel_rfl) (by kernel_rfl) (by kernel_rfl) (fun _ _ _ h => h) (Or.inl ⟨by rfl, ?_⟩) hHeld ?_
  rotate_left
  · intro w hSw
    clear hSw
    go_simp
    try with_reducible rfl
  try simp only [Act.put, List.setIfInBounds_toArray, List.set_cons_zero, List.set_cons_succ]
  refine wpAnyH_take (i := 9) (oi := { dst := some 16, op := Op.assign (Operand.tmp 132), type := 4, pos := "outright.go:178", after := #[{ on := 7, ground := Ground.data }, { on := 8, ground := Ground.chain }, { on := 0, ground := Ground.phase }, { on := 1, ground := Ground.phase }, { on := 2, ground := Ground.phase }, { on := 3, ground := Ground.phase }, { on := 4, ground := Ground.phase }, { on := 5, ground := Ground.phase }, { on := 6, ground := Ground.phase }, { on := 7, ground := Ground.phase }, { on := 8, ground := Ground.phase }], guard := none }) (v := ?_) rfl (by kernel_rfl) (by kernel_rfl) (by kernel_rfl) (fun _ _ _ h => h) (Or.inl ⟨by rfl, ?_⟩) hHeld ?_
  rotate_left
  · intro w hSw
    clear hSw
    go_simp
    try with_reducible rfl
  try simp only [Act.put, List.setIfInBounds_toArray, List.set_cons_zero, List.set_cons_succ]
  refine wpAnyH_done (by kernel_rfl) ?_ _
  have hb := hHeld
  clear hHeld
  replace HB := Lib.hid (HB.out.trans (hb.mono HB.out.size))
  replace OWN := Lib.hid (OWN.out.grow' hb)
  replace INN := Lib.hid (INN.out.grow' hb)
  replace XX := Lib.hid (XX.out.grow' hb)
  replace YY := Lib.hid (YY.out.grow' hb)
  clear hb
  clear HRX HLX HOX HGp8 Qp8
  have HRA := Lib.hid XX.out.cells.range
  have HRB := Lib.hid YY.out.cells.range
  have HOA := Lib.hid XX.out.ok
  have HOB := Lib.hid YY.out.ok
  go_wp2_with (with_reducible show wpList _ _ _ (_ :: _) _ _; first | refine wpList_load_path' rfl (.tmp 11) rfl (w24.heap.size) 0 rfl (nextP ⟨#[10, 0, 0, 1]⟩ p5) HRA.out ?_ | refine wpList_load_path' rfl (.tmp 12) rfl (w24.heap.size + 1) 0 rfl (nextP ⟨#[10, 0, 0, 0]⟩ p6) HRB.out ?_ | refine wpList_build_paths rfl rfl [nextP ⟨#[10, 0, 0, 1]⟩ p5, nextP ⟨#[10, 0, 0, 0]⟩ p6] ?hvw32 rfl (by decide) (by decide) ?_)
  refine (HBE.out (some ⟨w32.heap.size, 0, none⟩) 2 [nextP ⟨#[10, 0, 0, 1]⟩ p5, nextP ⟨#[10, 0, 0, 0]⟩ p6] (.func (.func 10) #[] #[]) (costP priceF) _ (rows_at (CellsAt.new _ _ _) (by simp) (two_ok (HOA.out.below ((Below.refl _ _).alloc (Nat.le_refl _) _) (Nat.le_refl _)) (HOB.out.below ((Below.refl _ _).alloc (Nat.le_refl _) _) (Nat.le_refl _)))) (fits_cost (price_cost _)) (by simp)).mono ?_
  rintro e w33 ⟨rfl, hb1⟩
  rw [kn_e Qp5.out Qp6.out]
  have hb := below_step hb1
  replace HB := Lib.hid (HB.out.trans (hb.mono HB.out.size))
  replace OWN := Lib.hid (OWN.out.grow' hb)
  replace INN := Lib.hid (INN.out.grow' hb)
  replace XX := Lib.hid (XX.out.grow' hb)
  replace YY := Lib.hid (YY.out.grow' hb)
  clear hb1 hb HRA HRB HOA HOB
  have HE : Hid ((Pt.cs (nextP ⟨#[10, 0, 0, 1]⟩ p5)).setIfInBounds 8 (.string ⟨#[10, 0, 0, 3]⟩) = Pt.cs (nextP ⟨#[10, 0, 0, 3]⟩ p5)) := by
    show _ = _
    kernel_rfl
  have HI : Hid (8 < (Pt.cs (nextP ⟨#[10, 0, 0, 1]⟩ p5)).size) := by
    show _ < _
    rw [Pt.cs_size]
    decide
  have HC := Lib.hid XX.out.cells
  go_wp2_with (with_reducible show wpList _ _ _ (_ :: _) _ _; refine wpList_cell_set rfl 9 (.tmp 141) (.const (.string ⟨#[10, 0, 0, 3]⟩)) rfl 8 rfl (.string ⟨#[10, 0, 0, 3]⟩) rfl (by kernel_rfl) HC (Pt.cs (nextP ⟨#[10, 0, 0, 3]⟩ p5)) HE HI rfl ?_)
  intro w34 HCN hk hb
  replace HB := Lib.hid (HB.out.trans (hb.out.mono HLXX.out))
  replace OWN := Lib.hid (OWN.out.grow hb.out LTOWNXX.out)
  replace INN := Lib.hid (INN.out.grow hb.out LTINNXX.out)
  replace YY := Lib.hid (YY.out.kept hk.out hb.out (Nat.le_refl _) (by omega))
  replace XX := Lib.hid (XX.out.set HCN.out hb.out (fun U h => nextP_ok (p := p5) ⟨h.rd, h.segs, h.len, h.cap, h.clen, h.ccap, h.peer, h.addr, h.crd, h.one1, h.one2, h.one3⟩))
  clear HE HI HC HCN hk hb
  have HRA := Lib.hid XX.out.cells.range
  have HRB := Lib.hid YY.out.cells.range
  have HOA := Lib.hid XX.out.ok
  have HOB := Lib.hid YY.out.ok
  go_wp2_with (with_reducible show wpList _ _ _ (_ :: _) _ _; first | refine wpList_load_path' rfl (.tmp 11) rfl (w24.heap.size) 0 rfl (nextP ⟨#[10, 0, 0, 3]⟩ p5) HRA.out ?_ | refine wpList_load_path' rfl (.tmp 12) rfl (w24.heap.size + 1) 0 rfl (nextP ⟨#[10, 0, 0, 0]⟩ p6) HRB.out ?_ | refine wpList_build_paths rfl rfl [nextP ⟨#[10, 0, 0, 3]⟩ p5, nextP ⟨#[10, 0, 0, 0]⟩ p6] ?hvw34 rfl (by decide) (by decide) ?_)
  refine (HBE.out (some ⟨w34.heap.size, 0, none⟩) 2 [nextP ⟨#[10, 0, 0, 3]⟩ p5, nextP ⟨#[10, 0, 0, 0]⟩ p6] (.func (.func 10) #[] #[]) (costP priceF) _ (rows_at (CellsAt.new _ _ _) (by simp) (two_ok (HOA.out.below ((Below.refl _ _).alloc (Nat.le_refl _) _) (Nat.le_refl _)) (HOB.out.below ((Below.refl _ _).alloc (Nat.le_refl _) _) (Nat.le_refl _)))) (fits_cost (price_cost _)) (by simp)).mono ?_
  rintro e w35 ⟨rfl, hb1⟩
  rw [kn_f Qp5.out Qp6.out]
  have hb := below_step hb1
  replace HB := Lib.hid (HB.out.trans (hb.mono HB.out.size))
  replace OWN := Lib.hid (OWN.out.grow' hb)
  replace INN := Lib.hid (INN.out.grow' hb)
  replace XX := Lib.hid (XX.out.grow' hb)
  replace YY := Lib.hid (YY.out.grow' hb)
  clear hb1 hb HRA HRB HOA HOB
  clear LTOWNXX
  clear LTINNXX
  clear LTOWNYY
  clear LTINNYY
  clear HLXX HLYY Qp5 Qp6
  clear XX YY
  go_wp2_with fail
  refine (HP.out ⟨#[97]⟩ 1 [1] w35.heap.size 1 _ _ _ (CellsAt.new w35 #[.int .u32 1] 28) rfl rfl (by decide) (by decide) (by decide) (by decide)).mono ?_
  rintro e w36 ⟨p9, rfl, ho, hb1⟩
  have Qp9 := Lib.hid ho
  have hb := below_step hb1
  replace HB := Lib.hid (HB.out.trans (hb.mono HB.out.size))
  replace OWN := Lib.hid (OWN.out.grow' hb)
  replace INN := Lib.hid (INN.out.grow' hb)
  have OKp9 : Hid (PtOk w36 p9) := ho.ok
  clear ho hb1 hb
  have HLNEA : Hid (w.heap.size ≤ w36.heap.size) := HB.out.size
  have LTOWNNEA : Hid (w17.heap.size < w36.heap.size) := OWN.out.lt
  have LTINNNEA : Hid (w20.heap.size < w36.heap.size) := INN.out.lt
  go_wp2_with (with_reducible show wpList _ _ _ (_ :: _) _ _; refine wpList_box_new rfl (.tmp 21) (.tmp 150) rfl rfl p9 rfl rfl OKp9 ?_)
  intro w37 NEA hbn
  replace HB := Lib.hid (HB.out.trans (hbn.out.mono HB.out.size))
  replace OWN := Lib.hid (OWN.out.grow' hbn.out)
  replace INN := Lib.hid (INN.out.grow' hbn.out)
  clear hbn
  clear OKp9
  have HE : Hid ((Pt.cs (p9)).setIfInBounds 22 (.int .i64 3) = Pt.cs (kindP 3 p9)) := by
    show _ = _
    kernel_rfl
  have HI : Hid (22 < (Pt.cs (p9)).size) := by
    show _ < _
    rw [Pt.cs_size]
    decide
  have HC := Lib.hid NEA.out.cells
  go_wp2_with (with_reducible show wpList _ _ _ (_ :: _) _ _; refine wpList_cell_set rfl 3 (.tmp 152) (.const (.int .i64 3)) rfl 22 rfl (.int .i64 3) rfl (by kernel_rfl) HC (Pt.cs (kindP 3 p9)) HE HI rfl ?_)
  intro w38 HCN hk hb
  replace HB := Lib.hid (HB.out.trans (hb.out.mono HLNEA.out))
  replace OWN := Lib.hid (OWN.out.grow hb.out LTOWNNEA.out)
  replace INN := Lib.hid (INN.out.grow hb.out LTINNNEA.out)
  replace NEA := Lib.hid (NEA.out.set HCN.out hb.out (fun U h => kindP_ok h))
  clear HE HI HC HCN hk hb
  clear LTOWNNEA
  clear LTINNNEA
  have HRX := Lib.hid NEA.out.cells.range
  have HLX := Lib.hid NEA.out.lt
  have HOX := Lib.hid NEA.out.ok
  go_wp2_with fail
  refine wp_region_held_drew (S := fun w' => Below w38.heap.size w38 w') (by kernel_rfl) (below_drewN (Below.refl _ _) 1) (fun hHeld => ?_)
  refine wpAnyH_take (i := 0) (oi := { dst := some 154, op := Op.load 38 (Operand.tmp 21), type := 38, pos := "outright.go:184", after := #[], guard := none }) (v := .agg (Pt.cs (kindP 3 p9))) rfl (by kernel_rfl) (by kernel_rfl) (by kernel_rfl) (fun _ _ _ h => h) (yields_prange (by rfl) _ rfl w36.heap.size 0 (by rfl) (kindP 3 p9) (fun w h => rangeAt_below HRX.out h HLX.out)) hHeld ?_
  try simp only [Act.put, List.setIfInBounds_toArray, List.set_cons_zero, List.set_cons_succ]
  refine wpAnyH_ready (rs := [1]) (by kernel_rfl) (by simp) ?_
  refine AllReadyH.cons (o := { dst := some 155, op := Op.buildSlice 30 1 #[(0, Operand.const (Value.int IntKind.u32 1))], type := 30, pos := "outright.go:184", after := #[], guard := none }) rfl (fun K hK => ?_) AllReadyH.nil
  go_simp
  skip
  refine hK.out _ _ (hHeld.alloc hHeld.size _) (fun hHeld => ?_)
  clear hK K
  try simp only [Act.put, List.setIfInBounds_toArray, List.set_cons_zero, List.set_cons_succ]
  refine wpAnyH_ready (rs := [2]) (by kernel_rfl) (by simp) ?_
  refine AllReadyH.cons (o := { dst := some 156, op := Op.call { callee := Callee.value (Operand.func 30), args := #[Operand.const (Value.string { data := #[98] }), Operand.const (Value.int IntKind.u32 2), Operand.tmp 155], argTypes := #[9, 28, 30] }, type := 38, pos := "outright.go:184", after := #[{ on := 1, ground := Ground.data }], guard := none }) rfl (fun K hK => ?_) AllReadyH.nil
  go_simp
  refine (HP.out ⟨#[98]⟩ 2 [1] w38.heap.size 1 _ _ _ (CellsAt.new w38.drew #[.int .u32 1] 28) rfl rfl (by decide) (by decide) (by decide) (by decide)).mono ?_
  rintro e w39 ⟨pa, rfl, ho, hb1⟩
  have Qpa := Lib.hid ho
  have HGpa := Lib.hid hb1
  clear ho hb1
  go_wp2_with fail
  refine hK.out _ _ (hHeld.trans (HGpa.out.mono hHeld.size)) (fun hHeld => ?_)
  clear hK K
  try simp only [Act.put, List.setIfInBounds_toArray, List.set_cons_zero, List.set_cons_succ]
  refine wpAnyH_ready (rs := [3]) (by kernel_rfl) (by simp) ?_
  refine AllReadyH.cons (o := { dst := some 157, op := Op.buildSlice 23 2 #[(0, Operand.tmp 154), (1, Operand.tmp 156)], type := 23, pos := "outright.go:184", after := #[{ on := 0, ground := Ground.data }, { on := 2, ground := Ground.data }], guard := none }) rfl (fun K hK => ?_) AllReadyH.nil
  refine wp_build_paths (by rfl) rfl [kindP 3 p9, pa] (by kernel_rfl) rfl (by decide) (by decide) ?_
  refine hK.out _ _ (hHeld.alloc hHeld.size _) (fun hHeld => ?_)
  clear hK K
  try simp only [Act.put, List.setIfInBounds_toArray, List.set_cons_zero, List.set_cons_succ]
  refine wpAnyH_ready (rs := [4]) (by kernel_rfl) (by simp) ?_
  refine AllReadyH.cons (o := { dst := some 158, op := Op.call { callee := Callee.value (Operand.func 12), args := #[Operand.tmp 157, Operand.const Value.nilFunc], argTypes := #[23, 41] }, type := 44, pos := "outright.go:184", after := #[{ on := 3, ground := Ground.data }, { on := 2, ground := Ground.chain }], guard := none }) rfl (fun K hK => ?_) AllReadyH.nil
  go_simp
  refine (HBE.out _ 2 [kindP 3 p9, pa] .nilFunc freeP _ (rows_at (CellsAt.new _ _ _) (by simp) (two_ok ((HOX.out.below hHeld (Nat.le_refl _))) ((Qpa.out.ok.below ((Below.refl _ _).alloc (Nat.le_refl _) _) (Nat.le_refl _))))) (fits_free _) (by simp)).mono ?_
  rintro e w40 ⟨rfl, hb6⟩
  rw [kn_g Qp9.out Qpa.out]
  go_wp2_with fail
  refine hK.out _ _ (hHeld.trans (hb6.mono hHeld.size)) (fun hHeld => ?_)
  clear hK K
  try simp only [Act.put, List.setIfInBounds_toArray, List.set_cons_zero, List.set_cons_succ]
  refine wpAnyH_take (i := 5) (oi := { dst := some 153, op := Op.move (Operand.tmp 158), type := 44, pos := "outright.go:184", after := #[{ on := 4, ground := Ground.data }], guard := none }) (v := ?_) rfl (by kernel_rfl) (by kernel_rfl) (by kernel_rfl) (fun _ _ _ h => h) (Or.inl ⟨by rfl, ?_⟩) hHeld ?_
  rotate_left
  · intro w hSw
    clear hSw
    go_simp
    try with_reducible rfl
  try simp only [Act.put, List.setIfInBounds_toArray, List.set_cons_zero, List.set_cons_succ]
  refine wpAnyH_take (i := 6) (oi := { dst := some 159, op := Op.extract (Operand.tmp 153) 0, type := 3, pos := "outright.go:184", after := #[{ on := 5, ground := Ground.data }], guard := none }) (v := ?_) rfl (by kernel_rfl) (by kernel_rfl) (by kernel_rfl) (fun _ _ _ h => h) (Or.inl ⟨by rfl, ?_⟩) hHeld ?_
  rotate_left
  · intro w hSw
    clear hSw
    go_simp
    try with_reducible rfl
  try simp only [Act.put, List.setIfInBounds_toArray, List.set_cons_zero, List.set_cons_succ]
  refine wpAnyH_take (i := 7) (oi := { dst := some 160, op := Op.extract (Operand.tmp 153) 1, type := 4, pos := "outright.go:184", after := #[{ on := 5, ground := Ground.data }, { on := 8, ground := Ground.gcOnly Departure.lateStores }], guard := none }) (v := ?_) rfl (by kernel_rfl) (by kernel_rfl) (by kernel_rfl) (fun _ _ _ h => h) (Or.inl ⟨by rfl, ?_⟩) hHeld ?_
  rotate_left
  · intro w hSw
    clear hSw
    go_simp
    try with_reducible rfl
  try simp only [Act.put, List.setIfInBounds_toArray, List.set_cons_zero, List.set_cons_succ]
  refine wpAnyH_take (i := 8) (oi := { dst := some 22, op := Op.assign (Operand.tmp 159), type := 3, pos := "outright.go:184", after := #[{ on := 6, ground := Ground.data }, { on := 4, ground := Ground.chain }, { on := 0, ground := Ground.phase }, { on := 1, ground := Ground.phase }, { on := 2, ground := Ground.phase }, { on := 3, ground := Ground.phase }, { on := 4, ground := Ground.phase }, { on := 5, ground := Ground.phase }, { on := 6, ground := Ground.phase }, { on := 7, ground := Ground.textOnly Departure.lateStores }], guard := none }) (v := ?_) rfl (by kernel_rfl) (by kernel_rfl) (by kernel_rfl) (fun _ _ _ h => h) (Or.inl ⟨by rfl, ?_⟩) hHeld ?_
  rotate_left
  · intro w hSw
    clear hSw
    go_simp
    try with_reducible rfl
  try simp only [Act.put, List.setIfInBounds_toArray, List.set_cons_zero, List.set_cons_succ]
  refine wpAnyH_take (i := 9) (oi := { dst := some 23, op := Op.assign (Operand.tmp 160), type := 4, pos := "outright.go:184", after := #[{ on := 7, ground := Ground.data }, { on := 8, ground := Ground.chain }, { on := 0, ground := Ground.phase }, { on := 1, ground := Ground.phase }, { on := 2, ground := Ground.phase }, { on := 3, ground := Ground.phase }, { on := 4, ground := Ground.phase }, { on := 5, ground := Ground.phase }, { on := 6, ground := Ground.phase }, { on := 7, ground := Ground.phase }, { on := 8, ground := Ground.phase }], guard := none }) (v := ?_) rfl (by kernel_rfl) (by kernel_rfl) (by kernel_rfl) (fun _ _ _ h => h) (Or.inl ⟨by rfl, ?_⟩) hHeld ?_
  rotate_left
  · intro w hSw
    clear hSw
    go_simp
    try with_reducible rfl
  try simp only [Act.put, List.setIfInBounds_toArray, List.set_cons_zero, List.set_cons_succ]
  refine wpAnyH_done (by kernel_rfl) ?_ _
  have hb := hHeld
  clear hHeld
  replace HB := Lib.hid (HB.out.trans (hb.mono HB.out.size))
  replace OWN := Lib.hid (OWN.out.grow' hb)
  replace INN := Lib.hid (INN.out.grow' hb)
  replace NEA := Lib.hid (NEA.out.grow' hb)
  clear hb
  clear HRX HLX HOX HGpa Qpa
  have HRA := Lib.hid INN.out.cells.range
  have HRB := Lib.hid NEA.out.cells.range
  have HOA := Lib.hid INN.out.ok
  have HOB := Lib.hid NEA.out.ok
  go_wp2_with (with_reducible show wpList _ _ _ (_ :: _) _ _; first | refine wpList_load_path' rfl (.tmp 10) rfl (w20.heap.size) 0 rfl (kindP 4 p4) HRA.out ?_ | refine wpList_load_path' rfl (.tmp 21) rfl (w36.heap.size) 0 rfl (kindP 3 p9) HRB.out ?_ | refine wpList_build_paths rfl rfl [kindP 4 p4, kindP 3 p9] ?hvw40 rfl (by decide) (by decide) ?_)
  refine (HBE.out (some ⟨w40.heap.size, 0, none⟩) 2 [kindP 4 p4, kindP 3 p9] .nilFunc (freeP) _ (rows_at (CellsAt.new _ _ _) (by simp) (two_ok (HOA.out.below ((Below.refl _ _).alloc (Nat.le_refl _) _) (Nat.le_refl _)) (HOB.out.below ((Below.refl _ _).alloc (Nat.le_refl _) _) (Nat.le_refl _)))) (fits_free _) (by simp)).mono ?_
  rintro e w41 ⟨rfl, hb1⟩
  rw [kn_h Qp4.out Qp9.out]
  have hb := below_step hb1
  replace HB := Lib.hid (HB.out.trans (hb.mono HB.out.size))
  replace OWN := Lib.hid (OWN.out.grow' hb)
  replace INN := Lib.hid (INN.out.grow' hb)
  replace NEA := Lib.hid (NEA.out.grow' hb)
  clear hb1 hb HRA HRB HOA HOB
  clear Qp4 Qp9 HLINN HLNEA
  clear INN NEA
  go_wp2_with fail
  refine (HP.out ⟨#[97]⟩ 1 [2] w41.heap.size 1 _ _ _ (CellsAt.new w41 #[.int .u32 2] 28) rfl rfl (by decide) (by decide) (by decide) (by decide)).mono ?_
  rintro e w42 ⟨pb, rfl, ho, hb1⟩
  have Qpb := Lib.hid ho
  have hb := below_step hb1
  replace HB := Lib.hid (HB.out.trans (hb.mono HB.out.size))
  replace OWN := Lib.hid (OWN.out.grow' hb)
  have OKpb : Hid (PtOk w42 pb) := ho.ok
  clear ho hb1 hb
  go_wp2_with fail
  refine (HP.out ⟨#[97]⟩ 1 [2] w42.heap.size 1 _ _ _ (CellsAt.new w42 #[.int .u32 2] 28) rfl rfl (by decide) (by decide) (by decide) (by decide)).mono ?_
  rintro e w43 ⟨pc, rfl, ho, hb1⟩
  have Qpc := Lib.hid ho
  have hb := below_step hb1
  replace HB := Lib.hid (HB.out.trans (hb.mono HB.out.size))
  replace OWN := Lib.hid (OWN.out.grow' hb)
  replace OKpb := Lib.hid (PtOk.below OKpb.out hb (Nat.le_refl _))
  have OKpc : Hid (PtOk w43 pc) := ho.ok
  clear ho hb1 hb
  have HLORI : Hid (w.heap.size ≤ w43.heap.size) := HB.out.size
  have HLCLU : Hid (w.heap.size ≤ w43.heap.size + 1) := Nat.le_succ_of_le HLORI.out
  have LTOWNORI : Hid (w17.heap.size < w43.heap.size) := OWN.out.lt
  have LTOWNCLU : Hid (w17.heap.size < w43.heap.size + 1) := Nat.lt_succ_of_lt LTOWNORI.out
  have HZA : Hid (CellsAt ((w43.alloc (.cells zeroPt 38)).alloc (.cells zeroPt 38)) w43.heap.size zeroPt 38) := (CellsAt.new _ _ _).alloc _
  have HZB : Hid (CellsAt ((w43.alloc (.cells zeroPt 38)).alloc (.cells zeroPt 38)) (w43.heap.size + 1) zeroPt 38) := by
    have h := CellsAt.new (w43.alloc (.cells zeroPt 38)) zeroPt 38
    rwa [show (w43.alloc (.cells zeroPt 38)).heap.size = w43.heap.size + 1 by simp] at h
  have HZO : Hid (Below w43.heap.size w43 ((w43.alloc (.cells zeroPt 38)).alloc (.cells zeroPt 38))) := ((Below.refl _ _).alloc (Nat.le_refl _) _).alloc (by simp) _
  have HOA := Lib.hid OKpb.out.pones
  have HOB := Lib.hid OKpc.out.pones
  go_wp2_with (with_reducible show wpList _ _ _ (_ :: _) _ _; refine wpList_box_over rfl (.tmp 26) (.tmp 191) rfl rfl pb rfl rfl HZA HOA ?_)
  intro w44 HCA hka hba
  replace HZB : Hid (CellsAt w44 (w43.heap.size + 1) zeroPt 38) := (hka.out _ (by omega)).trans HZB.out
  replace HZO : Hid (Below w43.heap.size w43 w44) := HZO.out.trans hba.out
  clear HZA hka hba
  go_wp2_with (with_reducible show wpList _ _ _ (_ :: _) _ _; refine wpList_box_over rfl (.tmp 27) (.tmp 193) rfl rfl pc rfl rfl HZB HOB ?_)
  intro w45 HCB hkb hbb
  replace HZO : Hid (Below w43.heap.size w43 w45) := HZO.out.trans (hbb.out.mono (Nat.le_succ _))
  have ORI : Hid (Box w45 w43.heap.size w43.heap.size pb) := ⟨(hkb.out _ (by omega)).trans HCA.out, (PtIn.new OKpb.out).grow HZO.out (Nat.le_refl _), Nat.le_refl _⟩
  have CLU : Hid (Box w45 w43.heap.size (w43.heap.size + 1) pc) := ⟨HCB.out, (PtIn.new OKpc.out).grow HZO.out (Nat.le_refl _), Nat.le_succ _⟩
  replace HB := Lib.hid (HB.out.trans (HZO.out.mono HB.out.size))
  replace OWN := Lib.hid (OWN.out.grow' HZO.out)
  clear HZO HZB HCA HCB hkb hbb HOA HOB
  clear OKpb
  clear OKpc
  have HE : Hid ((Pt.cs (pb)).setIfInBounds 19 (.bool true) = Pt.cs (orig0 pb)) := by
    show _ = _
    kernel_rfl
  have HI : Hid (19 < (Pt.cs (pb)).size) := by
    show _ < _
    rw [Pt.cs_size]
    decide
  have HC := Lib.hid ORI.out.cells
  go_wp2_with (with_reducible show wpList _ _ _ (_ :: _) _ _; refine wpList_cell_set rfl 4 (.tmp 195) (.const (.bool true)) rfl 19 rfl (.bool true) rfl (by kernel_rfl) HC (Pt.cs (orig0 pb)) HE HI rfl ?_)
  intro w46 HCN hk hb
  replace HB := Lib.hid (HB.out.trans (hb.out.mono HLORI.out))
  replace OWN := Lib.hid (OWN.out.grow hb.out LTOWNORI.out)
  replace CLU := Lib.hid (CLU.out.kept hk.out hb.out (Nat.le_refl _) (by omega))
  replace ORI := Lib.hid (ORI.out.set HCN.out hb.out (fun U h => orig0_ok h))
  clear HE HI HC HCN hk hb
  have HE : Hid ((Pt.cs (orig0 pb)).setIfInBounds 20 (.int .u32 9) = Pt.cs (origP pb)) := by
    show _ = _
    kernel_rfl
  have HI : Hid (20 < (Pt.cs (orig0 pb)).size) := by
    show _ < _
    rw [Pt.cs_size]
    decide
  have HC := Lib.hid ORI.out.cells
  go_wp2_with (with_reducible show wpList _ _ _ (_ :: _) _ _; refine wpList_cell_set rfl 28 (.tmp 197) (.const (.int .u32 9)) rfl 20 rfl (.int .u32 9) rfl (by kernel_rfl) HC (Pt.cs (origP pb)) HE HI rfl ?_)
  intro w47 HCN hk hb
  replace HB := Lib.hid (HB.out.trans (hb.out.mono HLORI.out))
  replace OWN := Lib.hid (OWN.out.grow hb.out LTOWNORI.out)
  replace CLU := Lib.hid (CLU.out.kept hk.out hb.out (Nat.le_refl _) (by omega))
  replace ORI := Lib.hid (ORI.out.set HCN.out hb.out (fun U h => origP_ok (p := pb) ⟨h.rd, h.segs, h.len, h.cap, h.clen, h.ccap, h.peer, h.addr, h.crd, h.one1, h.one2, h.one3⟩))
  clear HE HI HC HCN hk hb
  have HE : Hid (pc.cs.setIfInBounds 21 (.slice (some ⟨w47.heap.size, 0, none⟩) 1 1) = Pt.cs (clusP (some ⟨w47.heap.size, 0, none⟩) 1 pc)) := by
    show _ = _
    kernel_rfl
  have HI : Hid (21 < pc.cs.size) := by
    show _ < _
    rw [Pt.cs_size]
    decide
  have HC : Hid (CellsAt (w47.alloc (.cells #[.int .u32 9] 28)) ((w43.heap.size + 1)) pc.cs 38) := CLU.out.cells.alloc _
  have HN9 : Hid (CellsAt (w47.alloc (.cells #[.int .u32 9] 28)) w47.heap.size #[.int .u32 9] 28) := CellsAt.new _ _ _
  have HNE9 : Hid (w47.heap.size ≠ (w43.heap.size + 1)) := Nat.ne_of_gt CLU.out.lt
  go_wp2_with (with_reducible show wpList _ _ _ (_ :: _) _ _; refine wpList_cell_set rfl 30 (.tmp 200) (.tmp 198) rfl 21 rfl (.slice (some ⟨w47.heap.size, 0, none⟩) 1 1) rfl (by kernel_rfl) HC (Pt.cs (clusP (some ⟨w47.heap.size, 0, none⟩) 1 pc)) HE HI rfl ?_)
  intro w48 HCN hk hb
  replace HN9 : Hid (CellsAt w48 w47.heap.size #[.int .u32 9] 28) := (hk.out _ HNE9.out).trans HN9.out
  have HBA : Hid (Below (w43.heap.size + 1) w47 w48) := ((Below.refl (w43.heap.size + 1) w47).alloc (by have := CLU.out.lt; omega) _).trans hb.out
  have OKC : Hid (PtOk w48 (clusP (some ⟨w47.heap.size, 0, none⟩) 1 pc)) := clusP_ok (CLU.out.pin.grow HBA.out CLU.out.le).ok HN9.out
  have HBW : Hid (Below w.heap.size w w48) := HB.out.trans (HBA.out.mono HLCLU.out)
  replace HB := HBW
  replace OWN := Lib.hid (OWN.out.grow HBA.out LTOWNCLU.out)
  replace ORI : Hid (Box w48 w43.heap.size w43.heap.size (origP pb)) := ⟨(hk.out _ (by omega)).trans (ORI.out.cells.alloc _), ORI.out.pin.grow HBA.out (Nat.le_succ _), ORI.out.le⟩
  have HCC := HCN
  clear HE HI HC HN9 HNE9 HCN hk hb HBA HBW
  clear LTOWNORI
  clear LTOWNCLU
  clear CLU HLCLU HLORI
  go_wp2_with (with_reducible show wpList _ _ _ (_ :: _) _ _; refine wpList_cfg_new rfl (.tmp 28) (.tmp 201) rfl rfl 3 9 0 0 rfl rfl ?_)
  intro w49 CFA hbn
  replace HB := Lib.hid (HB.out.trans (hbn.out.mono HB.out.size))
  replace OWN := Lib.hid (OWN.out.grow' hbn.out)
  replace ORI := Lib.hid (ORI.out.grow' hbn.out)
  replace HCC := Lib.hid (CellsAt.below HCC.out hbn.out HCC.out.lt)
  replace OKC := Lib.hid (PtOk.below OKC.out hbn.out (Nat.le_refl _))
  clear hbn
  go_wp2_with (with_reducible show wpList _ _ _ (_ :: _) _ _; refine wpList_cfg_new rfl (.tmp 29) (.tmp 202) rfl rfl 3 9 0 7 rfl rfl ?_)
  intro w50 CFB hbn
  replace HB := Lib.hid (HB.out.trans (hbn.out.mono HB.out.size))
  replace OWN := Lib.hid (OWN.out.grow' hbn.out)
  replace ORI := Lib.hid (ORI.out.grow' hbn.out)
  replace HCC := Lib.hid (CellsAt.below HCC.out hbn.out HCC.out.lt)
  replace OKC := Lib.hid (PtOk.below OKC.out hbn.out (Nat.le_refl _))
  replace CFA := Lib.hid (CellsAt.below CFA.out hbn.out CFA.out.lt)
  clear hbn
  go_wp2_with fail
  refine (HP.out ⟨#[97]⟩ 1 [2, 1] w50.heap.size 2 _ _ _ (CellsAt.new w50 #[.int .u32 2, .int .u32 1] 28) rfl rfl (by decide) (by decide) (by decide) (by decide)).mono ?_
  rintro e w51 ⟨pd, rfl, ho, hb1⟩
  have Qpd := Lib.hid ho
  have hb := below_step hb1
  replace HB := Lib.hid (HB.out.trans (hb.mono HB.out.size))
  replace OWN := Lib.hid (OWN.out.grow' hb)
  replace ORI := Lib.hid (ORI.out.grow' hb)
  replace HCC := Lib.hid (CellsAt.below HCC.out hb HCC.out.lt)
  replace OKC := Lib.hid (PtOk.below OKC.out hb (Nat.le_refl _))
  replace CFA := Lib.hid (CellsAt.below CFA.out hb CFA.out.lt)
  replace CFB := Lib.hid (CellsAt.below CFB.out hb CFB.out.lt)
  have OKpd : Hid (PtOk w51 pd) := ho.ok
  clear ho hb1 hb
  go_wp2_with fail
  refine (HLO.out 1 0 0 0 (pd) _ OKpd.out).mono ?_
  rintro e w52 ⟨rfl, hb⟩
  rw [kl_1 Qpd.out]
  replace HB := Lib.hid (HB.out.trans (hb.mono HB.out.size))
  replace OWN := Lib.hid (OWN.out.grow' hb)
  replace ORI := Lib.hid (ORI.out.grow' hb)
  replace HCC := Lib.hid (CellsAt.below HCC.out hb HCC.out.lt)
  replace OKC := Lib.hid (PtOk.below OKC.out hb (Nat.le_refl _))
  replace CFA := Lib.hid (CellsAt.below CFA.out hb CFA.out.lt)
  replace CFB := Lib.hid (CellsAt.below CFB.out hb CFB.out.lt)
  replace OKpd := Lib.hid (PtOk.below OKpd.out hb (Nat.le_refl _))
  clear hb
  clear Qpd
  clear OKpd
  go_wp2_with fail
  refine (HP.out ⟨#[97]⟩ 1 [2] w52.heap.size 1 _ _ _ (CellsAt.new w52 #[.int .u32 2] 28) rfl rfl (by decide) (by decide) (by decide) (by decide)).mono ?_
  rintro e w53 ⟨pe, rfl, ho, hb1⟩
  have Qpe := Lib.hid ho
  have hb := below_step hb1
  replace HB := Lib.hid (HB.out.trans (hb.mono HB.out.size))
  replace OWN := Lib.hid (OWN.out.grow' hb)
  replace ORI := Lib.hid (ORI.out.grow' hb)
  replace HCC := Lib.hid (CellsAt.below HCC.out hb HCC.out.lt)
  replace OKC := Lib.hid (PtOk.below OKC.out hb (Nat.le_refl _))
  replace CFA := Lib.hid (CellsAt.below CFA.out hb CFA.out.lt)
  replace CFB := Lib.hid (CellsAt.below CFB.out hb CFB.out.lt)
  have OKpe : Hid (PtOk w53 pe) := ho.ok
  clear ho hb1 hb
  go_wp2_with fail
  refine (HLO.out 5 0 2 0 (pe) _ OKpe.out).mono ?_
  rintro e w54 ⟨rfl, hb⟩
  rw [kl_2 Qpe.out]
  replace HB := Lib.hid (HB.out.trans (hb.mono HB.out.size))
  replace OWN := Lib.hid (OWN.out.grow' hb)
  replace ORI := Lib.hid (ORI.out.grow' hb)
  replace HCC := Lib.hid (CellsAt.below HCC.out hb HCC.out.lt)
  replace OKC := Lib.hid (PtOk.below OKC.out hb (Nat.le_refl _))
  replace CFA := Lib.hid (CellsAt.below CFA.out hb CFA.out.lt)
  replace CFB := Lib.hid (CellsAt.below CFB.out hb CFB.out.lt)
  replace OKpe := Lib.hid (PtOk.below OKpe.out hb (Nat.le_refl _))
  clear hb
  clear Qpe
  clear OKpe
  go_wp2_with fail
  refine (HP.out ⟨#[97]⟩ 1 [2] w54.heap.size 1 _ _ _ (CellsAt.new w54 #[.int .u32 2] 28) rfl rfl (by decide) (by decide) (by decide) (by decide)).mono ?_
  rintro e w55 ⟨pf, rfl, ho, hb1⟩
  have Qpf := Lib.hid ho
  have hb := below_step hb1
  replace HB := Lib.hid (HB.out.trans (hb.mono HB.out.size))
  replace OWN := Lib.hid (OWN.out.grow' hb)
  replace ORI := Lib.hid (ORI.out.grow' hb)
  replace HCC := Lib.hid (CellsAt.below HCC.out hb HCC.out.lt)
  replace OKC := Lib.hid (PtOk.below OKC.out hb (Nat.le_refl _))
  replace CFA := Lib.hid (CellsAt.below CFA.out hb CFA.out.lt)
  replace CFB := Lib.hid (CellsAt.below CFB.out hb CFB.out.lt)
  have OKpf : Hid (PtOk w55 pf) := ho.ok
  clear ho hb1 hb
  go_wp2_with fail
  refine (HLO.out 5 0 0 0 (pf) _ OKpf.out).mono ?_
  rintro e w56 ⟨rfl, hb⟩
  rw [kl_3 Qpf.out]
  replace HB := Lib.hid (HB.out.trans (hb.mono HB.out.size))
  replace OWN := Lib.hid (OWN.out.grow' hb)
  replace ORI := Lib.hid (ORI.out.grow' hb)
  replace HCC := Lib.hid (CellsAt.below HCC.out hb HCC.out.lt)
  replace OKC := Lib.hid (PtOk.below OKC.out hb (Nat.le_refl _))
  replace CFA := Lib.hid (CellsAt.below CFA.out hb CFA.out.lt)
  replace CFB := Lib.hid (CellsAt.below CFB.out hb CFB.out.lt)
  replace OKpf := Lib.hid (PtOk.below OKpf.out hb (Nat.le_refl _))
  clear hb
  clear Qpf
  clear OKpf
  have HRO := Lib.hid ORI.out.cells.range
  go_wp2_with (with_reducible show wpList _ _ _ (_ :: _) _ _; first | refine wpList_load_cfg_g (by kernel_rfl) (.tmp 28) rfl (w48.heap.size) rfl 3 9 0 0 CFA ?_ | refine wpList_load_path_g (by kernel_rfl) (.tmp 26) rfl (w43.heap.size) 0 rfl (origP pb) HRO.out ?_)
  clear HRO
  refine (HLO.out 3 9 0 0 (origP pb) _ ORI.out.ok).mono ?_
  rintro e w57 ⟨rfl, hb⟩
  rw [kl_4 Qpb.out]
  replace HB := Lib.hid (HB.out.trans (hb.mono HB.out.size))
  replace OWN := Lib.hid (OWN.out.grow' hb)
  replace ORI := Lib.hid (ORI.out.grow' hb)
  replace HCC := Lib.hid (CellsAt.below HCC.out hb HCC.out.lt)
  replace OKC := Lib.hid (PtOk.below OKC.out hb (Nat.le_refl _))
  replace CFA := Lib.hid (CellsAt.below CFA.out hb CFA.out.lt)
  replace CFB := Lib.hid (CellsAt.below CFB.out hb CFB.out.lt)
  clear hb
  have HRO := Lib.hid (CellsAt.range HCC.out)
  go_wp2_with (with_reducible show wpList _ _ _ (_ :: _) _ _; first | refine wpList_load_cfg_g (by kernel_rfl) (.tmp 28) rfl (w48.heap.size) rfl 3 9 0 0 CFA ?_ | refine wpList_load_path_g (by kernel_rfl) (.tmp 27) rfl ((w43.heap.size + 1)) 0 rfl (clusP (some ⟨w47.heap.size, 0, none⟩) 1 pc) HRO.out ?_)
  clear HRO
  refine (HLO.out 3 9 0 0 (clusP (some ⟨w47.heap.size, 0, none⟩) 1 pc) _ OKC.out).mono ?_
  rintro e w58 ⟨rfl, hb⟩
  rw [kl_5 Qpc.out]
  replace HB := Lib.hid (HB.out.trans (hb.mono HB.out.size))
  replace OWN := Lib.hid (OWN.out.grow' hb)
  replace ORI := Lib.hid (ORI.out.grow' hb)
  replace HCC := Lib.hid (CellsAt.below HCC.out hb HCC.out.lt)
  replace OKC := Lib.hid (PtOk.below OKC.out hb (Nat.le_refl _))
  replace CFA := Lib.hid (CellsAt.below CFA.out hb CFA.out.lt)
  replace CFB := Lib.hid (CellsAt.below CFB.out hb CFB.out.lt)
  clear hb
  have HRO := Lib.hid (CellsAt.range HCC.out)
  go_wp2_with (with_reducible show wpList _ _ _ (_ :: _) _ _; first | refine wpList_load_cfg_g (by kernel_rfl) (.tmp 29) rfl (w49.heap.size) rfl 3 9 0 7 CFB ?_ | refine wpList_load_path_g (by kernel_rfl) (.tmp 27) rfl ((w43.heap.size + 1)) 0 rfl (clusP (some ⟨w47.heap.size, 0, none⟩) 1 pc) HRO.out ?_)
  clear HRO
  refine (HLO.out 3 9 0 7 (clusP (some ⟨w47.heap.size, 0, none⟩) 1 pc) _ OKC.out).mono ?_
  rintro e w59 ⟨rfl, hb⟩
  rw [kl_6 Qpc.out]
  replace HB := Lib.hid (HB.out.trans (hb.mono HB.out.size))
  replace OWN := Lib.hid (OWN.out.grow' hb)
  replace ORI := Lib.hid (ORI.out.grow' hb)
  replace HCC := Lib.hid (CellsAt.below HCC.out hb HCC.out.lt)
  replace OKC := Lib.hid (PtOk.below OKC.out hb (Nat.le_refl _))
  replace CFA := Lib.hid (CellsAt.below CFA.out hb CFA.out.lt)
  replace CFB := Lib.hid (CellsAt.below CFB.out hb CFB.out.lt)
  clear hb
  have HRO := Lib.hid OWN.out.cells.range
  go_wp2_with (with_reducible show wpList _ _ _ (_ :: _) _ _; first | refine wpList_load_path_g (by kernel_rfl) (.tmp 9) rfl (w17.heap.size) 0 rfl (kindP 1 p3) HRO.out ?_)
  clear HRO
  refine (HLO.out 1 0 0 0 (kindP 1 p3) _ OWN.out.ok).mono ?_
  rintro e w60 ⟨rfl, hb⟩
  rw [kl_7 Qp3.out]
  replace HB := Lib.hid (HB.out.trans (hb.mono HB.out.size))
  replace OWN := Lib.hid (OWN.out.grow' hb)
  replace ORI := Lib.hid (ORI.out.grow' hb)
  replace HCC := Lib.hid (CellsAt.below HCC.out hb HCC.out.lt)
  replace OKC := Lib.hid (PtOk.below OKC.out hb (Nat.le_refl _))
  replace CFA := Lib.hid (CellsAt.below CFA.out hb CFA.out.lt)
  replace CFB := Lib.hid (CellsAt.below CFB.out hb CFB.out.lt)
  clear hb
  clear ORI HCC OKC CFA CFB OWN
  go_wp2_with fail
  refine (HPN.out ⟨#[97]⟩ 1 _ (by decide)).mono ?_
  rintro e w61 ⟨rfl, ho, hb⟩
  have HON := Lib.hid ho
  replace HB := Lib.hid (HB.out.trans (hb.mono HB.out.size))
  clear hb ho
  go_wp2_with fail
  refine (HDE.out _ _).mono ?_
  rintro e w62 ⟨rfl, hb⟩
  rw [kl_8]
  replace HB := Lib.hid (HB.out.trans (hb.mono HB.out.size))
  clear hb HON
  go_wp2_with fail
  refine (HPN.out ⟨#[97]⟩ 1 _ (by decide)).mono ?_
  rintro e w63 ⟨rfl, ho, hb⟩
  have HON := Lib.hid ho
  replace HB := Lib.hid (HB.out.trans (hb.mono HB.out.size))
  clear hb ho
  go_wp2_with fail
  refine (HNE.out _ _ HON.out).mono ?_
  rintro e w64 ⟨rfl, hb⟩
  rw [kl_9]
  replace HB := Lib.hid (HB.out.trans (hb.mono HB.out.size))
  clear hb HON
  go_wp2_with fail
  refine (HWK.out _).mono ?_
  rintro e w65 ⟨rfl, hb⟩
  replace HB := Lib.hid (HB.out.trans (hb.mono HB.out.size))
  clear hb
  go_wp2_with fail
  go_ret
  exact ⟨rfl, HB.out⟩
end Go.Proofs.Ytoamigfjpcniaaa
