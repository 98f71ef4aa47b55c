/-
  AttrSame walked. Conditions: sizes.
-/
import Derived.Test.YtkcojblflebomaaGreatAcH
import Derived.Test.YtkcojblflebomaaGreatAaO
import Derived.Test.YtkcojblflebomaaGreatAaP
import Derived.Test.YtkcojblflebomaaGreatAbO
set_option linter.unusedVariables false
set_option linter.unusedSimpArgs false
namespace Go.Proofs.YtkcojblflebomaaGreat
open Go.RowKit Go.MapKept Go.Shelf
open Go.Lib hiding intOf

set_option maxRecDepth 100000 in
set_option maxHeartbeats 8000000 in
theorem same_walk (a b : Atr) (w : World) (ha : AtrOk w a) (hb : AtrOk w b) (hz : AtrSz a.c) :
    Calls Tryz.prog 6 #[a.v, b.v] w fun e w' => e = .returned (.bool true) ∧ Below w.heap.size w w' := by
  obtain ⟨r, hr⟩ : ∃ r, r = decide (a.c = b.c) := ⟨_, rfl⟩
  have HSA : Hid (∀ W, AtrOk W a → AtrOk W b → Calls Tryz.prog 23 #[.agg a.ar, .agg b.ar] W fun e w' => e = .returned (.bool r) ∧ Below W.heap.size W w') := fun W h1 h2 => by rw [hr]; exact same_any a b W h1 h2
  have HSR : Hid (∀ W, AtrOk W a → AtrOk W b → Calls Tryz.prog 21 #[.agg a.ar, .agg b.ar] W fun e w' => e = .returned (.bool r) ∧ Below W.heap.size W w') := fun W h1 h2 => by rw [hr]; exact rsame_any a b W h1 h2
  have HOW : Hid (∀ W, AtrOk W a → Calls Tryz.prog 24 #[.agg a.ar] W fun e w' => (∃ a' : Atr, e = .returned (.agg a'.ar) ∧ AtrOk w' a' ∧ a'.c = a.c) ∧ Below W.heap.size W w') := fun W h1 => (rown_any a W h1 hz).mono fun e w' ⟨⟨a', he, ho, hc⟩, hb⟩ => ⟨⟨a', he, ho.ok, hc⟩, hb⟩
  have HSO : Hid (∀ (W : World) (a' : Atr), AtrOk W a → AtrOk W a' → a'.c = a.c → Calls Tryz.prog 23 #[.agg a.ar, .agg a'.ar] W fun e w' => e = .returned (.bool true) ∧ Below W.heap.size W w') := fun W a' h1 h2 hc => by
    have h := same_any a a' W h1 h2
    rwa [decide_eq_true hc.symm] at h
  have HWK := Lib.hid works_any
  have HA := Lib.hid ha
  have HB := Lib.hid hb
  have z1 : (r == r) = true := beq_iff_eq.2 rfl
  clear hr ha hb hz
  obtain ⟨V, hV⟩ : ∃ V, V = (w.alloc (.cells a.ar 40)).alloc (.cells b.ar 40) := ⟨_, rfl⟩
  have HC0 : Hid (CellsAt V w.heap.size a.ar 40) := by rw [hV]; exact (CellsAt.new _ _ _).alloc _
  have HD0 : Hid (CellsAt V (w.heap.size + 1) b.ar 40) := by
    rw [hV]
    have h := CellsAt.new (w.alloc (.cells a.ar 40)) b.ar 40
    rwa [show (w.alloc (.cells a.ar 40)).heap.size = w.heap.size + 1 by simp] at h
  have HB0 : Hid (Below w.heap.size w V) := by rw [hV]; exact ((Below.refl _ _).alloc (Nat.le_refl _) _).alloc (by simp) _
  unfold Atr.v
  go_enter Tryz.func6, Tryz.ntmps6
  go_upto_region 1 with fail
  rw [← hV]
  clear hV
  refine wp_region_held_drew (S := fun w' => CellsAt w' w.heap.size a.ar 40 ∧ CellsAt w' (w.heap.size + 1) b.ar 40 ∧ AtrOk w' a ∧ AtrOk w' b ∧ Below w.heap.size w w') (by kernel_rfl) (⟨HC0.out.drew 1, HD0.out.drew 1, (HA.out.below HB0.out (Nat.le_refl _)).below (below_drewN (Below.refl _ _) 1) (Nat.le_refl _), (HB.out.below HB0.out (Nat.le_refl _)).below (below_drewN (Below.refl _ _) 1) (Nat.le_refl _), below_drewN HB0.out 1⟩) (fun hHeld => ?_)
  refine wpAnyH_take (i := 0) (oi := { dst := some 5, op := Op.load 40 (Operand.tmp 2), type := 40, pos := "law.go:90", after := #[], guard := none }) (v := .agg a.ar) rfl (by kernel_rfl) (by kernel_rfl) (by kernel_rfl) (fun _ _ _ h => h) (yields_attrs (by rfl) _ rfl w.heap.size (by rfl) a (fun w h => h.1)) hHeld ?_
  try simp only [Act.put, List.setIfInBounds_toArray, List.set_cons_zero, List.set_cons_succ]
  refine wpAnyH_take (i := 1) (oi := { dst := some 6, op := Op.load 40 (Operand.tmp 3), type := 40, pos := "law.go:90", after := #[], guard := none }) (v := .agg b.ar) rfl (by kernel_rfl) (by kernel_rfl) (by kernel_rfl) (fun _ _ _ h => h) (yields_attrs (by rfl) _ rfl (w.heap.size + 1) (by rfl) b (fun w h => h.2.1)) hHeld ?_
  try simp only [Act.put, List.setIfInBounds_toArray, List.set_cons_zero, List.set_cons_succ]
  refine wpAnyH_take (i := 3) (oi := { dst := some 8, op := Op.load 40 (Operand.tmp 2), type := 40, pos := "law.go:90", after := #[], guard := none }) (v := .agg a.ar) rfl (by kernel_rfl) (by kernel_rfl) (by kernel_rfl) (fun _ _ _ h => h) (yields_attrs (by rfl) _ rfl w.heap.size (by rfl) a (fun w h => h.1)) hHeld ?_
  try simp only [Act.put, List.setIfInBounds_toArray, List.set_cons_zero, List.set_cons_succ]
  refine wpAnyH_take (i := 4) (oi := { dst := some 9, op := Op.load 40 (Operand.tmp 3), type := 40, pos := "law.go:90", after := #[], guard := none }) (v := .agg b.ar) rfl (by kernel_rfl) (by kernel_rfl) (by kernel_rfl) (fun _ _ _ h => h) (yields_attrs (by rfl) _ rfl (w.heap.size + 1) (by rfl) b (fun w h => h.2.1)) hHeld ?_
  try simp only [Act.put, List.setIfInBounds_toArray, List.set_cons_zero, List.set_cons_succ]
  refine wpAnyH_ready (rs := [2]) (by kernel_rfl) (by simp) ?_
  refine AllReadyH.cons (o := { dst := some 7, op := Op.call { callee := Callee.value (Operand.func 23), args := #[Operand.tmp 5, Operand.tmp 6], argTypes := #[40, 40] }, type := 4, pos := "law.go:90", after := #[{ on := 0, ground := Ground.data }, { on := 1, ground := Ground.data }], guard := none }) rfl (fun K hK => ?_) AllReadyH.nil
  go_simp
  refine (HSA.out _ hHeld.2.2.1 hHeld.2.2.2.1).mono ?_
  rintro e w1 ⟨rfl, hb1⟩
  have HS1 := Lib.hid hHeld
  refine hK.out _ _ (⟨HS1.out.1.below hb1 HS1.out.1.lt, HS1.out.2.1.below hb1 HS1.out.2.1.lt, HS1.out.2.2.1.below hb1 (Nat.le_refl _), HS1.out.2.2.2.1.below hb1 (Nat.le_refl _), HS1.out.2.2.2.2.trans (hb1.mono HS1.out.2.2.2.2.size)⟩) (fun hHeld => ?_)
  clear hK K
  try simp only [Act.put, List.setIfInBounds_toArray, List.set_cons_zero, List.set_cons_succ]
  refine wpAnyH_ready (rs := [5]) (by kernel_rfl) (by simp) ?_
  refine AllReadyH.cons (o := { dst := some 10, op := Op.call { callee := Callee.value (Operand.func 21), args := #[Operand.tmp 8, Operand.tmp 9], argTypes := #[40, 40] }, type := 4, pos := "law.go:90", after := #[{ on := 3, ground := Ground.data }, { on := 4, ground := Ground.data }, { on := 2, ground := Ground.chain }], guard := none }) rfl (fun K hK => ?_) AllReadyH.nil
  go_simp
  refine (HSR.out _ hHeld.2.2.1 hHeld.2.2.2.1).mono ?_
  rintro e w2 ⟨rfl, hb2⟩
  have HS2 := Lib.hid hHeld
  refine hK.out _ _ (⟨HS2.out.1.below hb2 HS2.out.1.lt, HS2.out.2.1.below hb2 HS2.out.2.1.lt, HS2.out.2.2.1.below hb2 (Nat.le_refl _), HS2.out.2.2.2.1.below hb2 (Nat.le_refl _), HS2.out.2.2.2.2.trans (hb2.mono HS2.out.2.2.2.2.size)⟩) (fun hHeld => ?_)
  clear hK K
  try simp only [Act.put, List.setIfInBounds_toArray, List.set_cons_zero, List.set_cons_succ]
  refine wpAnyH_take (i := 6) (oi := { dst := some 11, op := Op.binOp BinOp.eql 4 (Operand.tmp 7) (Operand.tmp 10) 4, type := 4, pos := "law.go:90", after := #[{ on := 2, ground := Ground.data }, { on := 5, ground := Ground.data }], guard := none }) (v := ?_) rfl (by kernel_rfl) (by kernel_rfl) (by kernel_rfl) (fun _ _ _ h => h) (Or.inl ⟨by rfl, ?_⟩) hHeld ?_
  rotate_left
  · intro w hSw
    clear hSw
    go_simp
    try with_reducible rfl
  try simp only [Act.put, List.setIfInBounds_toArray, List.set_cons_zero, List.set_cons_succ]
  refine wpAnyH_take (i := 7) (oi := { dst := some 12, op := Op.move (Operand.tmp 11), type := 4, pos := "law.go:90", after := #[{ on := 6, ground := Ground.data }, { on := 5, ground := Ground.chain }], guard := none }) (v := ?_) rfl (by kernel_rfl) (by kernel_rfl) (by kernel_rfl) (fun _ _ _ h => h) (Or.inl ⟨by rfl, ?_⟩) hHeld ?_
  rotate_left
  · intro w hSw
    clear hSw
    go_simp
    try with_reducible rfl
  try simp only [Act.put, List.setIfInBounds_toArray, List.set_cons_zero, List.set_cons_succ]
  refine wpAnyH_take (i := 8) (oi := { dst := some 13, op := Op.load 40 (Operand.tmp 2), type := 40, pos := "law.go:90", after := #[{ on := 7, ground := Ground.guard }], guard := some (7, true) }) (v := .agg a.ar) rfl (by kernel_rfl) (by kernel_rfl) (by kernel_rfl) (fun _ _ _ h => h) (yields_attrs (by rfl) _ rfl w.heap.size (by rfl) a (fun w h => h.1)) hHeld ?_
  try simp only [Act.put, List.setIfInBounds_toArray, List.set_cons_zero, List.set_cons_succ]
  refine wpAnyH_take (i := 9) (oi := { dst := some 14, op := Op.load 40 (Operand.tmp 2), type := 40, pos := "law.go:90", after := #[{ on := 7, ground := Ground.guard }], guard := some (7, true) }) (v := .agg a.ar) rfl (by kernel_rfl) (by kernel_rfl) (by kernel_rfl) (fun _ _ _ h => h) (yields_attrs (by rfl) _ rfl w.heap.size (by rfl) a (fun w h => h.1)) hHeld ?_
  try simp only [Act.put, List.setIfInBounds_toArray, List.set_cons_zero, List.set_cons_succ]
  refine wpAnyH_ready (rs := [10]) (by kernel_rfl) (by simp) ?_
  refine AllReadyH.cons (o := { dst := some 15, op := Op.call { callee := Callee.value (Operand.func 24), args := #[Operand.tmp 14], argTypes := #[40] }, type := 40, pos := "law.go:90", after := #[{ on := 9, ground := Ground.data }, { on := 7, ground := Ground.chain }, { on := 7, ground := Ground.guard }], guard := some (7, true) }) rfl (fun K hK => ?_) AllReadyH.nil
  go_simp
  refine (HOW.out _ hHeld.2.2.1).mono ?_
  rintro e w3 ⟨⟨a', rfl, ho3, hc3⟩, hb3⟩
  have HS3 := Lib.hid hHeld
  have HO3 := Lib.hid ho3
  have HE3 := Lib.hid hc3
  clear ho3 hc3
  refine hK.out _ _ (⟨HS3.out.1.below hb3 HS3.out.1.lt, HS3.out.2.1.below hb3 HS3.out.2.1.lt, HS3.out.2.2.1.below hb3 (Nat.le_refl _), HS3.out.2.2.2.1.below hb3 (Nat.le_refl _), HS3.out.2.2.2.2.trans (hb3.mono HS3.out.2.2.2.2.size)⟩) (fun hHeld => ?_)
  clear hK K
  try simp only [Act.put, List.setIfInBounds_toArray, List.set_cons_zero, List.set_cons_succ]
  refine wpAnyH_ready (rs := [11]) (by kernel_rfl) (by simp) ?_
  refine AllReadyH.cons (o := { dst := some 16, op := Op.call { callee := Callee.value (Operand.func 23), args := #[Operand.tmp 13, Operand.tmp 15], argTypes := #[40, 40] }, type := 4, pos := "law.go:90", after := #[{ on := 8, ground := Ground.data }, { on := 10, ground := Ground.data }, { on := 10, ground := Ground.chain }, { on := 7, ground := Ground.guard }], guard := some (7, true) }) rfl (fun K hK => ?_) AllReadyH.nil
  go_simp
  refine (HSO.out _ a' hHeld.2.2.1 HO3.out HE3.out).mono ?_
  rintro e w4 ⟨rfl, hb4⟩
  have HS4 := Lib.hid hHeld
  refine hK.out _ _ (⟨HS4.out.1.below hb4 HS4.out.1.lt, HS4.out.2.1.below hb4 HS4.out.2.1.lt, HS4.out.2.2.1.below hb4 (Nat.le_refl _), HS4.out.2.2.2.1.below hb4 (Nat.le_refl _), HS4.out.2.2.2.2.trans (hb4.mono HS4.out.2.2.2.2.size)⟩) (fun hHeld => ?_)
  clear hK K
  try simp only [Act.put, List.setIfInBounds_toArray, List.set_cons_zero, List.set_cons_succ]
  refine wpAnyH_take (i := 12) (oi := { dst := some 17, op := Op.pick (Operand.tmp 12) (Operand.tmp 16) (Operand.const (Value.bool false)), type := 4, pos := "law.go:90", after := #[{ on := 7, ground := Ground.data }, { on := 11, ground := Ground.data }], guard := none }) (v := ?_) rfl (by kernel_rfl) (by kernel_rfl) (by kernel_rfl) (fun _ _ _ h => h) (Or.inl ⟨by rfl, ?_⟩) hHeld ?_
  rotate_left
  · intro w hSw
    clear hSw
    go_simp
    try with_reducible rfl
  try simp only [Act.put, List.setIfInBounds_toArray, List.set_cons_zero, List.set_cons_succ]
  refine wpAnyH_take (i := 13) (oi := { dst := some 18, op := Op.move (Operand.tmp 17), type := 4, pos := "law.go:90", after := #[{ on := 12, ground := Ground.data }, { on := 11, ground := Ground.chain }], guard := none }) (v := ?_) rfl (by kernel_rfl) (by kernel_rfl) (by kernel_rfl) (fun _ _ _ h => h) (Or.inl ⟨by rfl, ?_⟩) hHeld ?_
  rotate_left
  · intro w hSw
    clear hSw
    go_simp
    try with_reducible rfl
  try simp only [Act.put, List.setIfInBounds_toArray, List.set_cons_zero, List.set_cons_succ]
  refine wpAnyH_ready (rs := [14]) (by kernel_rfl) (by simp) ?_
  refine AllReadyH.cons (o := { dst := some 19, op := Op.call { callee := Callee.value (Operand.func 16), args := #[], argTypes := #[] }, type := 4, pos := "law.go:90", after := #[{ on := 13, ground := Ground.chain }, { on := 13, ground := Ground.guard }], guard := some (13, true) }) rfl (fun K hK => ?_) AllReadyH.nil
  go_simp
  refine (HWK.out _).mono ?_
  rintro e w5 ⟨rfl, hb5⟩
  have HS5 := Lib.hid hHeld
  refine hK.out _ _ (⟨HS5.out.1.below hb5 HS5.out.1.lt, HS5.out.2.1.below hb5 HS5.out.2.1.lt, HS5.out.2.2.1.below hb5 (Nat.le_refl _), HS5.out.2.2.2.1.below hb5 (Nat.le_refl _), HS5.out.2.2.2.2.trans (hb5.mono HS5.out.2.2.2.2.size)⟩) (fun hHeld => ?_)
  clear hK K
  try simp only [Act.put, List.setIfInBounds_toArray, List.set_cons_zero, List.set_cons_succ]
  refine wpAnyH_take (i := 15) (oi := { dst := some 20, op := Op.pick (Operand.tmp 18) (Operand.tmp 19) (Operand.const (Value.bool false)), type := 4, pos := "law.go:90", after := #[{ on := 13, ground := Ground.data }, { on := 14, ground := Ground.data }], guard := none }) (v := ?_) rfl (by kernel_rfl) (by kernel_rfl) (by kernel_rfl) (fun _ _ _ h => h) (Or.inl ⟨by rfl, ?_⟩) hHeld ?_
  rotate_left
  · intro w hSw
    clear hSw
    go_simp
    try with_reducible rfl
  try simp only [Act.put, List.setIfInBounds_toArray, List.set_cons_zero, List.set_cons_succ]
  refine wpAnyH_take (i := 16) (oi := { dst := some 4, op := Op.assign (Operand.tmp 20), type := 4, pos := "law.go:90", after := #[{ on := 15, ground := Ground.data }, { on := 14, ground := Ground.chain }, { on := 0, ground := Ground.phase }, { on := 1, ground := Ground.phase }, { on := 2, ground := Ground.phase }, { on := 3, ground := Ground.phase }, { on := 4, ground := Ground.phase }, { on := 5, ground := Ground.phase }, { on := 6, ground := Ground.phase }, { on := 7, ground := Ground.phase }, { on := 8, ground := Ground.phase }, { on := 9, ground := Ground.phase }, { on := 10, ground := Ground.phase }, { on := 11, ground := Ground.phase }, { on := 12, ground := Ground.phase }, { on := 13, ground := Ground.phase }, { on := 14, ground := Ground.phase }, { on := 15, ground := Ground.phase }], guard := none }) (v := ?_) rfl (by kernel_rfl) (by kernel_rfl) (by kernel_rfl) (fun _ _ _ h => h) (Or.inl ⟨by rfl, ?_⟩) hHeld ?_
  rotate_left
  · intro w hSw
    clear hSw
    go_simp
    try with_reducible rfl
  try simp only [Act.put, List.setIfInBounds_toArray, List.set_cons_zero, List.set_cons_succ]
  refine wpAnyH_done (by kernel_rfl) ?_ _
  have HE := Lib.hid hHeld
  clear hHeld
  go_wp2_with fail
  go_ret
  exact ⟨rfl, HE.out.2.2.2.2⟩
end Go.Proofs.YtkcojblflebomaaGreat
