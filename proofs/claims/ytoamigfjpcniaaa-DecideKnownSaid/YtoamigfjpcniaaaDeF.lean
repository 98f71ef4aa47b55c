/-
  The order by address. Conditions: sizes.
-/
import Derived.Test.YtoamigfjpcniaaaDeE
set_option linter.unusedVariables false
set_option linter.unusedSimpArgs false
namespace Go.Proofs.Ytoamigfjpcniaaa
open Go.RowKit Go.MapKept Go.Shelf
open Go.Lib hiding intOf

theorem cell_new2 (w : World) (x y : Value) (T : TypeId) : (w.alloc (.cells #[x, y] T)).cell? ⟨w.heap.size, 0, none⟩ = some x ∧ (w.alloc (.cells #[x, y] T)).cell? ⟨w.heap.size, 1, none⟩ = some y := (CellsAt.new w #[x, y] T).c2
theorem or64_new (x y : Int) (w : World) (T : TypeId) : Calls Try.prog 70 #[.slice (some ⟨w.heap.size, 0, none⟩) 2 2] (w.alloc (.cells #[.int .i64 x, .int .i64 y] T)) fun e w' => e = .returned (.int .i64 (orF x y)) ∧ w' = w.alloc (.cells #[.int .i64 x, .int .i64 y] T) :=
  or64_any x y _ _ (cell_new2 w _ _ T).1 (cell_new2 w _ _ T).2
set_option maxHeartbeats 4000000 in
theorem ord9_any (x y : En) (w : World) : Calls Try.prog 69 #[x.v, y.v] w fun e w' => e = .returned (.int .i64 (orF (Lib.compareInt x.p.addr.size y.p.addr.size) (Lib.compareBytes x.p.addr.data.toList y.p.addr.data.toList))) ∧ Below w.heap.size w w' := by
  generalize h1 : Lib.compareInt (x.p.addr.size : Int) (y.p.addr.size : Int) = c1
  generalize h2 : Lib.compareBytes x.p.addr.data.toList y.p.addr.data.toList = c2
  have H1 : Hid (∀ w, Calls Try.prog 58 #[.int .i64 (x.p.addr.size : Int), .int .i64 (y.p.addr.size : Int)] w fun e w' => e = .returned (.int .i64 c1) ∧ w' = w) := fun w => by rw [← h1]; exact Try.cmp_Compare_int _ _ _
  have H2 : Hid (∀ w, Calls Try.prog 71 #[.string x.p.addr, .string y.p.addr] w fun e w' => e = .returned (.int .i64 c2) ∧ w' = w) := fun w => by rw [← h2]; exact Try.strings_Compare _ _ _
  clear h1 h2
  have HS : Hid (CellsAt (((w.alloc (.cells x.cs 79)).alloc (.cells y.cs 79)).drew) w.heap.size x.cs 79 ∧ CellsAt (((w.alloc (.cells x.cs 79)).alloc (.cells y.cs 79)).drew) (w.heap.size + 1) y.cs 79 ∧ Below w.heap.size w (((w.alloc (.cells x.cs 79)).alloc (.cells y.cs 79)).drew)) := by
    have h1 : CellsAt (w.alloc (.cells x.cs 79)) w.heap.size x.cs 79 := CellsAt.new _ _ _
    have h2 : CellsAt ((w.alloc (.cells x.cs 79)).alloc (.cells y.cs 79)) (w.alloc (.cells x.cs 79)).heap.size y.cs 79 := CellsAt.new _ _ _
    have h3 : (w.alloc (.cells x.cs 79)).heap.size = w.heap.size + 1 := by simp
    rw [h3] at h2
    exact ⟨(h1.alloc _).drew 1, h2.drew 1, below_drewN (((Below.refl w.heap.size w).alloc (Nat.le_refl _) _).alloc (by simp) _) 1⟩
  rw [En.v_cs, En.v_cs]
  go_enter Try.func69, Try.ntmps69
  go_wp2_with fail
  refine wp_region_held_drew (S := fun w' => CellsAt w' w.heap.size x.cs 79 ∧ CellsAt w' (w.heap.size + 1) y.cs 79 ∧ Below w.heap.size w w') (by kernel_rfl) (HS.out) (fun hHeld => ?_)
  refine wpAnyH_take (i := 0) (oi := { dst := some 5, op := Op.fieldAddr 79 (Operand.tmp 2) 0, type := 0, pos := "decide.go:130", after := #[], guard := none }) (v := ?_) rfl (by kernel_rfl) (by kernel_rfl) (by kernel_rfl) (fun _ _ _ h => h) (Or.inl ⟨by rfl, ?_⟩) hHeld ?_
  rotate_left
  · intro w hSw
    clear hSw
    go_simp
    try with_reducible rfl
  try simp only [Act.put, List.setIfInBounds_toArray, List.set_cons_zero, List.set_cons_succ]
  refine wpAnyH_take (i := 1) (oi := { dst := some 6, op := Op.fieldAddr 38 (Operand.tmp 5) 4, type := 0, pos := "decide.go:130", after := #[{ on := 0, ground := Ground.data }], guard := none }) (v := ?_) rfl (by kernel_rfl) (by kernel_rfl) (by kernel_rfl) (fun _ _ _ h => h) (Or.inl ⟨by rfl, ?_⟩) hHeld ?_
  rotate_left
  · intro w hSw
    clear hSw
    go_simp
    try with_reducible rfl
  try simp only [Act.put, List.setIfInBounds_toArray, List.set_cons_zero, List.set_cons_succ]
  refine wpAnyH_take (i := 2) (oi := { dst := some 7, op := Op.fieldAddr 36 (Operand.tmp 6) 4, type := 0, pos := "decide.go:130", after := #[{ on := 1, ground := Ground.data }], guard := none }) (v := ?_) rfl (by kernel_rfl) (by kernel_rfl) (by kernel_rfl) (fun _ _ _ h => h) (Or.inl ⟨by rfl, ?_⟩) hHeld ?_
  rotate_left
  · intro w hSw
    clear hSw
    go_simp
    try with_reducible rfl
  try simp only [Act.put, List.setIfInBounds_toArray, List.set_cons_zero, List.set_cons_succ]
  refine wpAnyH_take (i := 5) (oi := { dst := some 10, op := Op.fieldAddr 79 (Operand.tmp 3) 0, type := 0, pos := "decide.go:130", after := #[], guard := none }) (v := ?_) rfl (by kernel_rfl) (by kernel_rfl) (by kernel_rfl) (fun _ _ _ h => h) (Or.inl ⟨by rfl, ?_⟩) hHeld ?_
  rotate_left
  · intro w hSw
    clear hSw
    go_simp
    try with_reducible rfl
  try simp only [Act.put, List.setIfInBounds_toArray, List.set_cons_zero, List.set_cons_succ]
  refine wpAnyH_take (i := 6) (oi := { dst := some 11, op := Op.fieldAddr 38 (Operand.tmp 10) 4, type := 0, pos := "decide.go:130", after := #[{ on := 5, ground := Ground.data }], guard := none }) (v := ?_) rfl (by kernel_rfl) (by kernel_rfl) (by kernel_rfl) (fun _ _ _ h => h) (Or.inl ⟨by rfl, ?_⟩) hHeld ?_
  rotate_left
  · intro w hSw
    clear hSw
    go_simp
    try with_reducible rfl
  try simp only [Act.put, List.setIfInBounds_toArray, List.set_cons_zero, List.set_cons_succ]
  refine wpAnyH_take (i := 7) (oi := { dst := some 12, op := Op.fieldAddr 36 (Operand.tmp 11) 4, type := 0, pos := "decide.go:130", after := #[{ on := 6, ground := Ground.data }], guard := none }) (v := ?_) rfl (by kernel_rfl) (by kernel_rfl) (by kernel_rfl) (fun _ _ _ h => h) (Or.inl ⟨by rfl, ?_⟩) hHeld ?_
  rotate_left
  · intro w hSw
    clear hSw
    go_simp
    try with_reducible rfl
  try simp only [Act.put, List.setIfInBounds_toArray, List.set_cons_zero, List.set_cons_succ]
  refine wpAnyH_take (i := 11) (oi := { dst := some 16, op := Op.fieldAddr 79 (Operand.tmp 2) 0, type := 0, pos := "decide.go:130", after := #[], guard := none }) (v := ?_) rfl (by kernel_rfl) (by kernel_rfl) (by kernel_rfl) (fun _ _ _ h => h) (Or.inl ⟨by rfl, ?_⟩) hHeld ?_
  rotate_left
  · intro w hSw
    clear hSw
    go_simp
    try with_reducible rfl
  try simp only [Act.put, List.setIfInBounds_toArray, List.set_cons_zero, List.set_cons_succ]
  refine wpAnyH_take (i := 12) (oi := { dst := some 17, op := Op.fieldAddr 38 (Operand.tmp 16) 4, type := 0, pos := "decide.go:130", after := #[{ on := 11, ground := Ground.data }], guard := none }) (v := ?_) rfl (by kernel_rfl) (by kernel_rfl) (by kernel_rfl) (fun _ _ _ h => h) (Or.inl ⟨by rfl, ?_⟩) hHeld ?_
  rotate_left
  · intro w hSw
    clear hSw
    go_simp
    try with_reducible rfl
  try simp only [Act.put, List.setIfInBounds_toArray, List.set_cons_zero, List.set_cons_succ]
  refine wpAnyH_take (i := 13) (oi := { dst := some 18, op := Op.fieldAddr 36 (Operand.tmp 17) 4, type := 0, pos := "decide.go:130", after := #[{ on := 12, ground := Ground.data }], guard := none }) (v := ?_) rfl (by kernel_rfl) (by kernel_rfl) (by kernel_rfl) (fun _ _ _ h => h) (Or.inl ⟨by rfl, ?_⟩) hHeld ?_
  rotate_left
  · intro w hSw
    clear hSw
    go_simp
    try with_reducible rfl
  try simp only [Act.put, List.setIfInBounds_toArray, List.set_cons_zero, List.set_cons_succ]
  refine wpAnyH_take (i := 15) (oi := { dst := some 20, op := Op.fieldAddr 79 (Operand.tmp 3) 0, type := 0, pos := "decide.go:130", after := #[], guard := none }) (v := ?_) rfl (by kernel_rfl) (by kernel_rfl) (by kernel_rfl) (fun _ _ _ h => h) (Or.inl ⟨by rfl, ?_⟩) hHeld ?_
  rotate_left
  · intro w hSw
    clear hSw
    go_simp
    try with_reducible rfl
  try simp only [Act.put, List.setIfInBounds_toArray, List.set_cons_zero, List.set_cons_succ]
  refine wpAnyH_take (i := 16) (oi := { dst := some 21, op := Op.fieldAddr 38 (Operand.tmp 20) 4, type := 0, pos := "decide.go:130", after := #[{ on := 15, ground := Ground.data }], guard := none }) (v := ?_) rfl (by kernel_rfl) (by kernel_rfl) (by kernel_rfl) (fun _ _ _ h => h) (Or.inl ⟨by rfl, ?_⟩) hHeld ?_
  rotate_left
  · intro w hSw
    clear hSw
    go_simp
    try with_reducible rfl
  try simp only [Act.put, List.setIfInBounds_toArray, List.set_cons_zero, List.set_cons_succ]
  refine wpAnyH_take (i := 17) (oi := { dst := some 22, op := Op.fieldAddr 36 (Operand.tmp 21) 4, type := 0, pos := "decide.go:130", after := #[{ on := 16, ground := Ground.data }], guard := none }) (v := ?_) rfl (by kernel_rfl) (by kernel_rfl) (by kernel_rfl) (fun _ _ _ h => h) (Or.inl ⟨by rfl, ?_⟩) hHeld ?_
  rotate_left
  · intro w hSw
    clear hSw
    go_simp
    try with_reducible rfl
  try simp only [Act.put, List.setIfInBounds_toArray, List.set_cons_zero, List.set_cons_succ]
  refine wpAnyH_take (i := 3) (oi := { dst := some 8, op := Op.load 9 (Operand.tmp 7), type := 9, pos := "decide.go:130", after := #[{ on := 2, ground := Ground.data }], guard := none }) (v := ?_) rfl (by kernel_rfl) (by kernel_rfl) (by kernel_rfl) (fun _ _ _ h => h) (Or.inl ⟨by rfl, ?_⟩) hHeld ?_
  rotate_left
  · intro w hSw
    obtain ⟨q1, q2, q3⟩ := hSw
    have l1 := (q1.c 26).trans (show x.cs[26]? = some (.string x.p.addr) from rfl)
    have l2 := (q2.c 26).trans (show y.cs[26]? = some (.string y.p.addr) from rfl)
    go_simp
    try with_reducible rfl
  try simp only [Act.put, List.setIfInBounds_toArray, List.set_cons_zero, List.set_cons_succ]
  refine wpAnyH_take (i := 8) (oi := { dst := some 13, op := Op.load 9 (Operand.tmp 12), type := 9, pos := "decide.go:130", after := #[{ on := 7, ground := Ground.data }], guard := none }) (v := ?_) rfl (by kernel_rfl) (by kernel_rfl) (by kernel_rfl) (fun _ _ _ h => h) (Or.inl ⟨by rfl, ?_⟩) hHeld ?_
  rotate_left
  · intro w hSw
    obtain ⟨q1, q2, q3⟩ := hSw
    have l1 := (q1.c 26).trans (show x.cs[26]? = some (.string x.p.addr) from rfl)
    have l2 := (q2.c 26).trans (show y.cs[26]? = some (.string y.p.addr) from rfl)
    go_simp
    try with_reducible rfl
  try simp only [Act.put, List.setIfInBounds_toArray, List.set_cons_zero, List.set_cons_succ]
  refine wpAnyH_take (i := 14) (oi := { dst := some 19, op := Op.load 9 (Operand.tmp 18), type := 9, pos := "decide.go:130", after := #[{ on := 13, ground := Ground.data }], guard := none }) (v := ?_) rfl (by kernel_rfl) (by kernel_rfl) (by kernel_rfl) (fun _ _ _ h => h) (Or.inl ⟨by rfl, ?_⟩) hHeld ?_
  rotate_left
  · intro w hSw
    obtain ⟨q1, q2, q3⟩ := hSw
    have l1 := (q1.c 26).trans (show x.cs[26]? = some (.string x.p.addr) from rfl)
    have l2 := (q2.c 26).trans (show y.cs[26]? = some (.string y.p.addr) from rfl)
    go_simp
    try with_reducible rfl
  try simp only [Act.put, List.setIfInBounds_toArray, List.set_cons_zero, List.set_cons_succ]
  refine wpAnyH_take (i := 18) (oi := { dst := some 23, op := Op.load 9 (Operand.tmp 22), type := 9, pos := "decide.go:130", after := #[{ on := 17, ground := Ground.data }], guard := none }) (v := ?_) rfl (by kernel_rfl) (by kernel_rfl) (by kernel_rfl) (fun _ _ _ h => h) (Or.inl ⟨by rfl, ?_⟩) hHeld ?_
  rotate_left
  · intro w hSw
    obtain ⟨q1, q2, q3⟩ := hSw
    have l1 := (q1.c 26).trans (show x.cs[26]? = some (.string x.p.addr) from rfl)
    have l2 := (q2.c 26).trans (show y.cs[26]? = some (.string y.p.addr) from rfl)
    go_simp
    try with_reducible rfl
  try simp only [Act.put, List.setIfInBounds_toArray, List.set_cons_zero, List.set_cons_succ]
  refine wpAnyH_take (i := 4) (oi := { dst := some 9, op := Op.call { callee := Callee.builtin Builtin.len, args := #[Operand.tmp 8], argTypes := #[9] }, type := 3, pos := "decide.go:130", after := #[{ on := 3, ground := Ground.data }], guard := none }) (v := ?_) rfl (by kernel_rfl) (by kernel_rfl) (by kernel_rfl) (fun _ _ _ h => h) (Or.inl ⟨by rfl, ?_⟩) hHeld ?_
  rotate_left
  · intro w hSw
    clear hSw
    go_simp
    try with_reducible rfl
  try simp only [Act.put, List.setIfInBounds_toArray, List.set_cons_zero, List.set_cons_succ]
  refine wpAnyH_take (i := 9) (oi := { dst := some 14, op := Op.call { callee := Callee.builtin Builtin.len, args := #[Operand.tmp 13], argTypes := #[9] }, type := 3, pos := "decide.go:130", after := #[{ on := 8, ground := Ground.data }], guard := none }) (v := ?_) rfl (by kernel_rfl) (by kernel_rfl) (by kernel_rfl) (fun _ _ _ h => h) (Or.inl ⟨by rfl, ?_⟩) hHeld ?_
  rotate_left
  · intro w hSw
    clear hSw
    go_simp
    try with_reducible rfl
  try simp only [Act.put, List.setIfInBounds_toArray, List.set_cons_zero, List.set_cons_succ]
  refine wpAnyH_ready (rs := [10]) (by kernel_rfl) (by simp) ?_
  refine AllReadyH.cons (o := { dst := some 15, op := Op.call { callee := Callee.value (Operand.func 58), args := #[Operand.tmp 9, Operand.tmp 14], argTypes := #[3, 3] }, type := 3, pos := "decide.go:130", after := #[{ on := 4, ground := Ground.data }, { on := 9, ground := Ground.data }], guard := none }) rfl (fun K hK => ?_) AllReadyH.nil
  go_simp
  refine (H1.out _).mono ?_
  rintro e w9 ⟨rfl, hw9⟩
  rw [hw9]
  clear hw9
  go_wp2_with fail
  refine hK.out _ _ (hHeld) (fun hHeld => ?_)
  clear hK K
  try simp only [Act.put, List.setIfInBounds_toArray, List.set_cons_zero, List.set_cons_succ]
  refine wpAnyH_ready (rs := [19]) (by kernel_rfl) (by simp) ?_
  refine AllReadyH.cons (o := { dst := some 24, op := Op.call { callee := Callee.value (Operand.func 71), args := #[Operand.tmp 19, Operand.tmp 23], argTypes := #[9, 9] }, type := 3, pos := "decide.go:130", after := #[{ on := 14, ground := Ground.data }, { on := 18, ground := Ground.data }, { on := 10, ground := Ground.chain }], guard := none }) rfl (fun K hK => ?_) AllReadyH.nil
  go_simp
  refine (H2.out _).mono ?_
  rintro e w9 ⟨rfl, hw9⟩
  rw [hw9]
  clear hw9
  go_wp2_with fail
  refine hK.out _ _ (hHeld) (fun hHeld => ?_)
  clear hK K
  try simp only [Act.put, List.setIfInBounds_toArray, List.set_cons_zero, List.set_cons_succ]
  refine wpAnyH_ready (rs := [20]) (by kernel_rfl) (by simp) ?_
  refine AllReadyH.cons (o := { dst := some 25, op := Op.buildSlice 39 2 #[(0, Operand.tmp 15), (1, Operand.tmp 24)], type := 39, pos := "decide.go:130", after := #[{ on := 10, ground := Ground.data }, { on := 19, ground := Ground.data }], guard := none }) rfl (fun K hK => ?_) AllReadyH.nil
  go_simp
  skip
  refine hK.out _ _ (And.intro (hHeld.1.alloc _) (And.intro (hHeld.2.1.alloc _) (hHeld.2.2.alloc hHeld.2.2.size _))) (fun hHeld => ?_)
  clear hK K
  try simp only [Act.put, List.setIfInBounds_toArray, List.set_cons_zero, List.set_cons_succ]
  refine wpAnyH_ready (rs := [21]) (by kernel_rfl) (by simp) ?_
  refine AllReadyH.cons (o := { dst := some 26, op := Op.call { callee := Callee.value (Operand.func 70), args := #[Operand.tmp 25], argTypes := #[39] }, type := 3, pos := "decide.go:130", after := #[{ on := 20, ground := Ground.data }, { on := 19, ground := Ground.chain }], guard := none }) rfl (fun K hK => ?_) AllReadyH.nil
  go_simp
  have HC : CellsAt ((((w.alloc (Obj.cells x.cs 79)).alloc (Obj.cells y.cs 79)).alloc (Obj.cells #[Value.int IntKind.i64 c1, Value.int IntKind.i64 c2] 3)).drew) (w.heap.size + 1 + 1) #[Value.int IntKind.i64 c1, Value.int IntKind.i64 c2] 3 := by
      have h := CellsAt.new ((w.alloc (Obj.cells x.cs 79)).alloc (Obj.cells y.cs 79)) #[Value.int IntKind.i64 c1, Value.int IntKind.i64 c2] 3
      rw [show ((w.alloc (Obj.cells x.cs 79)).alloc (Obj.cells y.cs 79)).heap.size = w.heap.size + 1 + 1 by simp] at h
      exact h.drew 1
  refine (or64_any c1 c2 (w.heap.size + 1 + 1) _ HC.c2.1 HC.c2.2).mono ?_
  rintro e w9 ⟨rfl, hw9⟩
  rw [hw9]
  clear hw9
  go_wp2_with fail
  refine hK.out _ _ (hHeld) (fun hHeld => ?_)
  clear hK K
  try simp only [Act.put, List.setIfInBounds_toArray, List.set_cons_zero, List.set_cons_succ]
  refine wpAnyH_take (i := 22) (oi := { dst := some 4, op := Op.assign (Operand.tmp 26), type := 3, pos := "decide.go:130", after := #[{ on := 21, ground := Ground.data }, { on := 21, ground := Ground.chain }, { on := 0, ground := Ground.phase }, { on := 1, ground := Ground.phase }, { on := 2, ground := Ground.phase }, { on := 3, ground := Ground.phase }, { on := 4, ground := Ground.phase }, { on := 5, ground := Ground.phase }, { on := 6, ground := Ground.phase }, { on := 7, ground := Ground.phase }, { on := 8, ground := Ground.phase }, { on := 9, ground := Ground.phase }, { on := 10, ground := Ground.phase }, { on := 11, ground := Ground.phase }, { on := 12, ground := Ground.phase }, { on := 13, ground := Ground.phase }, { on := 14, ground := Ground.phase }, { on := 15, ground := Ground.phase }, { on := 16, ground := Ground.phase }, { on := 17, ground := Ground.phase }, { on := 18, ground := Ground.phase }, { on := 19, ground := Ground.phase }, { on := 20, ground := Ground.phase }, { on := 21, ground := Ground.phase }], guard := none }) (v := ?_) rfl (by kernel_rfl) (by kernel_rfl) (by kernel_rfl) (fun _ _ _ h => h) (Or.inl ⟨by rfl, ?_⟩) hHeld ?_
  rotate_left
  · intro w hSw
    clear hSw
    go_simp
    try with_reducible rfl
  try simp only [Act.put, List.setIfInBounds_toArray, List.set_cons_zero, List.set_cons_succ]
  refine wpAnyH_done (by kernel_rfl) ?_ _
  have HB := hHeld.2.2
  clear hHeld
  go_wp2_with fail
  go_ret
  exact ⟨rfl, HB⟩
end Go.Proofs.Ytoamigfjpcniaaa
