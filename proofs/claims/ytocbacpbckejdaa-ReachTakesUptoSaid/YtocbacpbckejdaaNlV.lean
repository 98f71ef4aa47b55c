/-
  Contracts of the law's ten, works. Conditions: none.
-/
import Derived.Test.YtocbacpbckejdaaNlU
import Derived.BigRegion
set_option linter.unusedVariables false
set_option linter.unusedSimpArgs false
namespace Go.Proofs.Ytocbacpbckejdaa
open Go.RowKit

/-- 10.0.0.0/8 -/
def tenN (f : Int) : Nl := ⟨f, 0, ⟨#[10, 0, 0, 0]⟩, 8, 0, 0⟩
theorem ten_any (f : Int) (w : World) : Calls Try.prog 26 #[.int .i64 f] w fun e w' => e = .returned (.agg #[.int .i64 f, .int .u64 0, .string ⟨#[10, 0, 0, 0]⟩, .int .i64 8, .int .u32 0, .int .u32 0]) ∧ Below w.heap.size w w' := by
  go_enter Try.func26, Try.ntmps26
  go_wp2_with fail
  go_returns
  exact ⟨rfl, by go_grown⟩
theorem IntAt.nil (w : World) : IntAt w none 0 [] := ⟨fun h => absurd h (by simp), Nat.le_refl _, Nat.zero_le _⟩
def hopS : ByteArray := ⟨#[10, 0, 0, 1]⟩
def tenS : ByteArray := ⟨#[0, 1, 1, 4, 10, 0, 0, 1, 0, 8, 10]⟩
theorem put_ten : putR 1 ⟨#[10, 0, 0, 1]⟩ [tenN 1] false = .tuple #[.string ⟨#[0, 1, 1, 4, 10, 0, 0, 1, 0, 8, 10]⟩, .int .i64 0] := by kernel_rfl
theorem take_ten : takeF ⟨#[0, 1, 1, 4, 10, 0, 0, 1, 0, 8, 10]⟩ [] = .ok (1, ⟨#[10, 0, 0, 1]⟩, [tenN 1]) := by kernel_rfl
theorem tenN_ok {f : Int} (h1 : -9223372036854775808 ≤ f) (h2 : f ≤ 9223372036854775807) : (tenN f).Ok := ⟨⟨h1, h2⟩, by show (0 : Int) ≤ 0 ∧ (0 : Int) < _; omega, by show 4 ≤ _; omega, by show (-9223372036854775808 : Int) ≤ 8 ∧ (8 : Int) ≤ _; omega, by show (0 : Int) ≤ 0 ∧ (0 : Int) < _; omega, by show (0 : Int) ≤ 0 ∧ (0 : Int) < _; omega⟩
/-- a row of one told prefix that was just laid -/
theorem NlRow.new1 (w : World) (n : Nl) (hn : n.Ok) (T : TypeId) : NlRow (w.alloc (.cells n.cs.toArray T)) (some ⟨w.heap.size, 0, none⟩) 1 1 [n] := by
  refine ⟨rfl, Nat.le_refl _, by unfold maxLen; omega, (fun e => by cases e), (fun m hm => by rw [List.mem_singleton.1 hm]; exact hn), fun _ => ⟨w.heap.size, 0, rfl, by simp, fun i m hi => ?_⟩⟩
  have hi0 : i = 0 := by
    have := (List.getElem?_eq_some_iff.1 hi).1
    simp at this
    omega
  subst hi0
  obtain rfl : n = m := by simpa using hi
  exact NlAt.new w n T
abbrev wO0 : Oper := { dst := some 20, op := Op.move (Operand.tmp 2), type := 33, pos := "outright.go:21", after := #[], guard := none }
abbrev wO1 : Oper := { dst := some 21, op := Op.binOp BinOp.eql 33 (Operand.tmp 20) (Operand.const (Value.int IntKind.i64 0)) 33, type := 4, pos := "outright.go:21", after := #[{ on := 0, ground := Ground.data }], guard := none }
abbrev wO2 : Oper := { dst := some 22, op := Op.move (Operand.tmp 21), type := 4, pos := "outright.go:21", after := #[{ on := 1, ground := Ground.data }], guard := none }
abbrev wO3 : Oper := { dst := some 23, op := Op.move (Operand.tmp 1), type := 9, pos := "outright.go:21", after := #[{ on := 2, ground := Ground.guard }], guard := some (2, true) }
abbrev wO4 : Oper := { dst := some 24, op := Op.binOp BinOp.eql 9 (Operand.tmp 23) (Operand.const (Value.string { data := #[0, 1, 1, 4, 10, 0, 0, 1, 0, 8, 10] })) 9, type := 4, pos := "outright.go:21", after := #[{ on := 3, ground := Ground.data }, { on := 2, ground := Ground.guard }], guard := some (2, true) }
abbrev wO5 : Oper := { dst := some 25, op := Op.pick (Operand.tmp 22) (Operand.tmp 24) (Operand.const (Value.bool false)), type := 4, pos := "outright.go:21", after := #[{ on := 2, ground := Ground.data }, { on := 4, ground := Ground.data }], guard := none }
abbrev wO6 : Oper := { dst := some 26, op := Op.move (Operand.tmp 25), type := 4, pos := "outright.go:21", after := #[{ on := 5, ground := Ground.data }, { on := 2, ground := Ground.chain }], guard := none }
abbrev wO7 : Oper := { dst := some 27, op := Op.move (Operand.tmp 6), type := 33, pos := "outright.go:21", after := #[{ on := 6, ground := Ground.guard }], guard := some (6, true) }
abbrev wO8 : Oper := { dst := some 28, op := Op.binOp BinOp.eql 33 (Operand.tmp 27) (Operand.const (Value.int IntKind.i64 0)) 33, type := 4, pos := "outright.go:21", after := #[{ on := 7, ground := Ground.data }, { on := 6, ground := Ground.guard }], guard := some (6, true) }
abbrev wO9 : Oper := { dst := some 29, op := Op.pick (Operand.tmp 26) (Operand.tmp 28) (Operand.const (Value.bool false)), type := 4, pos := "outright.go:21", after := #[{ on := 6, ground := Ground.data }, { on := 8, ground := Ground.data }], guard := none }
abbrev wO10 : Oper := { dst := some 30, op := Op.move (Operand.tmp 29), type := 4, pos := "outright.go:21", after := #[{ on := 9, ground := Ground.data }, { on := 6, ground := Ground.chain }], guard := none }
abbrev wO11 : Oper := { dst := some 31, op := Op.move (Operand.tmp 3), type := 3, pos := "outright.go:21", after := #[{ on := 10, ground := Ground.guard }], guard := some (10, true) }
abbrev wO12 : Oper := { dst := some 32, op := Op.binOp BinOp.eql 3 (Operand.tmp 31) (Operand.const (Value.int IntKind.i64 1)) 3, type := 4, pos := "outright.go:21", after := #[{ on := 11, ground := Ground.data }, { on := 10, ground := Ground.guard }], guard := some (10, true) }
abbrev wO13 : Oper := { dst := some 33, op := Op.pick (Operand.tmp 30) (Operand.tmp 32) (Operand.const (Value.bool false)), type := 4, pos := "outright.go:21", after := #[{ on := 10, ground := Ground.data }, { on := 12, ground := Ground.data }], guard := none }
abbrev wO14 : Oper := { dst := some 34, op := Op.move (Operand.tmp 33), type := 4, pos := "outright.go:21", after := #[{ on := 13, ground := Ground.data }, { on := 10, ground := Ground.chain }], guard := none }
abbrev wO15 : Oper := { dst := some 35, op := Op.move (Operand.tmp 4), type := 9, pos := "outright.go:21", after := #[{ on := 14, ground := Ground.guard }], guard := some (14, true) }
abbrev wO16 : Oper := { dst := some 36, op := Op.binOp BinOp.eql 9 (Operand.tmp 35) (Operand.const (Value.string { data := #[10, 0, 0, 1] })) 9, type := 4, pos := "outright.go:21", after := #[{ on := 15, ground := Ground.data }, { on := 14, ground := Ground.guard }], guard := some (14, true) }
abbrev wO17 : Oper := { dst := some 37, op := Op.pick (Operand.tmp 34) (Operand.tmp 36) (Operand.const (Value.bool false)), type := 4, pos := "outright.go:21", after := #[{ on := 14, ground := Ground.data }, { on := 16, ground := Ground.data }], guard := none }
abbrev wO18 : Oper := { dst := some 38, op := Op.move (Operand.tmp 37), type := 4, pos := "outright.go:21", after := #[{ on := 17, ground := Ground.data }, { on := 14, ground := Ground.chain }], guard := none }
abbrev wO19 : Oper := { dst := some 39, op := Op.move (Operand.tmp 5), type := 29, pos := "outright.go:21", after := #[{ on := 18, ground := Ground.guard }], guard := some (18, true) }
abbrev wO20 : Oper := { dst := some 40, op := Op.call { callee := Callee.builtin Builtin.len, args := #[Operand.tmp 39], argTypes := #[29] }, type := 3, pos := "outright.go:21", after := #[{ on := 19, ground := Ground.data }, { on := 18, ground := Ground.guard }], guard := some (18, true) }
abbrev wO21 : Oper := { dst := some 41, op := Op.binOp BinOp.eql 3 (Operand.tmp 40) (Operand.const (Value.int IntKind.i64 1)) 3, type := 4, pos := "outright.go:21", after := #[{ on := 20, ground := Ground.data }, { on := 18, ground := Ground.guard }], guard := some (18, true) }
abbrev wO22 : Oper := { dst := some 42, op := Op.pick (Operand.tmp 38) (Operand.tmp 41) (Operand.const (Value.bool false)), type := 4, pos := "outright.go:21", after := #[{ on := 18, ground := Ground.data }, { on := 21, ground := Ground.data }], guard := none }
abbrev wO23 : Oper := { dst := some 43, op := Op.move (Operand.tmp 42), type := 4, pos := "outright.go:21", after := #[{ on := 22, ground := Ground.data }, { on := 18, ground := Ground.chain }], guard := none }
abbrev wO24 : Oper := { dst := some 44, op := Op.move (Operand.tmp 5), type := 29, pos := "outright.go:21", after := #[{ on := 23, ground := Ground.guard }], guard := some (23, true) }
abbrev wO25 : Oper := { dst := some 45, op := Op.indexAddr 29 (Operand.tmp 44) (Operand.const (Value.int IntKind.i64 0)), type := 0, pos := "outright.go:21", after := #[{ on := 24, ground := Ground.data }, { on := 23, ground := Ground.guard }], guard := some (23, true) }
abbrev wO26 : Oper := { dst := some 46, op := Op.load 47 (Operand.tmp 45), type := 47, pos := "outright.go:21", after := #[{ on := 25, ground := Ground.data }, { on := 23, ground := Ground.guard }], guard := some (23, true) }
abbrev wO27 : Oper := { dst := some 47, op := Op.call { callee := Callee.value (Operand.func 26), args := #[Operand.const (Value.int IntKind.i64 1)], argTypes := #[3] }, type := 47, pos := "outright.go:21", after := #[{ on := 23, ground := Ground.chain }, { on := 23, ground := Ground.guard }], guard := some (23, true) }
abbrev wO28 : Oper := { dst := some 48, op := Op.binOp BinOp.eql 47 (Operand.tmp 46) (Operand.tmp 47) 47, type := 4, pos := "outright.go:21", after := #[{ on := 26, ground := Ground.data }, { on := 27, ground := Ground.data }, { on := 23, ground := Ground.guard }], guard := some (23, true) }
abbrev wO29 : Oper := { dst := some 49, op := Op.pick (Operand.tmp 43) (Operand.tmp 48) (Operand.const (Value.bool false)), type := 4, pos := "outright.go:21", after := #[{ on := 23, ground := Ground.data }, { on := 28, ground := Ground.data }], guard := none }
abbrev wO30 : Oper := { dst := some 0, op := Op.assign (Operand.tmp 49), type := 4, pos := "outright.go:21", after := #[{ on := 29, ground := Ground.data }, { on := 27, ground := Ground.chain }, { on := 0, ground := Ground.phase }, { on := 1, ground := Ground.phase }, { on := 2, ground := Ground.phase }, { on := 3, ground := Ground.phase }, { on := 4, ground := Ground.phase }, { on := 5, ground := Ground.phase }, { on := 6, ground := Ground.phase }, { on := 7, ground := Ground.phase }, { on := 8, ground := Ground.phase }, { on := 9, ground := Ground.phase }, { on := 10, ground := Ground.phase }, { on := 11, ground := Ground.phase }, { on := 12, ground := Ground.phase }, { on := 13, ground := Ground.phase }, { on := 14, ground := Ground.phase }, { on := 15, ground := Ground.phase }, { on := 16, ground := Ground.phase }, { on := 17, ground := Ground.phase }, { on := 18, ground := Ground.phase }, { on := 19, ground := Ground.phase }, { on := 20, ground := Ground.phase }, { on := 21, ground := Ground.phase }, { on := 22, ground := Ground.phase }, { on := 23, ground := Ground.phase }, { on := 24, ground := Ground.phase }, { on := 25, ground := Ground.phase }, { on := 26, ground := Ground.phase }, { on := 27, ground := Ground.phase }, { on := 28, ground := Ground.phase }, { on := 29, ground := Ground.phase }], guard := none }
set_option maxRecDepth 100000 in
set_option maxHeartbeats 4000000 in
theorem works_any (w : World) : Calls Try.prog 13 #[] w fun e w' => e = .returned (.bool true) ∧ Below w.heap.size w w' := by
  go_enter Try.func13, Try.ntmps13
  go_wp2_with fail
  refine (ten_any 1 _).mono ?_
  rintro e w1 ⟨rfl, hb⟩
  have HB1 := Lib.hid (hb.alloc hb.size (.cells (tenN 1).cs.toArray 47))
  have HR1 := Lib.hid (NlRow.new1 w1 (tenN 1) (tenN_ok (by omega) (by omega)) 47)
  clear hb
  go_wp2_with fail
  refine (put_any 1 ⟨#[10, 0, 0, 1]⟩ _ 1 1 [tenN 1] false _ HR1.out (by omega) (by decide)).mono ?_
  rintro e w2 ⟨rfl, hb⟩
  have HB2 := Lib.hid (HB1.out.trans (hb.mono HB1.out.size))
  clear hb HB1 HR1
  rw [put_ten]
  go_wp2_with fail
  refine (take_any ⟨#[0, 1, 1, 4, 10, 0, 0, 1, 0, 8, 10]⟩ none 0 [] _ (IntAt.nil _) (by decide)).mono ?_
  rintro e w3 ⟨hb, hm⟩
  have HB3 := Lib.hid (HB2.out.trans (hb.mono HB2.out.size))
  clear hb HB2
  rw [take_ten] at hm
  obtain ⟨v, rfl, ho⟩ := hm
  obtain ⟨A, c, rfl, hrow⟩ := ho.row (fun n hn => by rw [List.mem_singleton.1 hn]; exact tenN_ok (by omega) (by omega))
  obtain ⟨bb, off, rfl, hlt, hat⟩ := hrow.at_ (by simp)
  have HAT : Hid (NlAt w3 bb off (tenN 1)) := by
    have h := hat 0 (tenN 1) rfl
    rwa [Nat.zero_mul, Nat.add_zero] at h
  have hc1 : 1 ≤ c := hrow.hle
  clear hat hrow ho
  go_wp2_with fail
  refine wp_region_held_drew (S := fun w' => Below w3.heap.size w3 w') (by as_aux_lemma => kernel_rfl) (below_drewN (Below.refl _ _) 1) (fun hHeld => ?_)
  refine wpAnyH_take (i := 0) (oi := wO0) (v := ?_) rfl (by as_aux_lemma => kernel_rfl) (by as_aux_lemma => kernel_rfl) (by as_aux_lemma => kernel_rfl) (fun _ _ _ h => h) (Or.inl ⟨by rfl, ?_⟩) hHeld ?_
  rotate_left
  · intro w hSw
    clear hSw
    go_simp
    try with_reducible rfl
  try simp only [Act.put, List.setIfInBounds_toArray, List.set_cons_zero, List.set_cons_succ]
  refine wpAnyH_take (i := 1) (oi := wO1) (v := ?_) rfl (by as_aux_lemma => kernel_rfl) (by as_aux_lemma => kernel_rfl) (by as_aux_lemma => kernel_rfl) (fun _ _ _ h => h) (Or.inl ⟨by rfl, ?_⟩) hHeld ?_
  rotate_left
  · intro w hSw
    clear hSw
    go_simp
    try with_reducible rfl
  try simp only [Act.put, List.setIfInBounds_toArray, List.set_cons_zero, List.set_cons_succ]
  refine wpAnyH_take (i := 2) (oi := wO2) (v := ?_) rfl (by as_aux_lemma => kernel_rfl) (by as_aux_lemma => kernel_rfl) (by as_aux_lemma => kernel_rfl) (fun _ _ _ h => h) (Or.inl ⟨by rfl, ?_⟩) hHeld ?_
  rotate_left
  · intro w hSw
    clear hSw
    go_simp
    try with_reducible rfl
  try simp only [Act.put, List.setIfInBounds_toArray, List.set_cons_zero, List.set_cons_succ]
  refine wpAnyH_take (i := 3) (oi := wO3) (v := ?_) rfl (by as_aux_lemma => kernel_rfl) (by as_aux_lemma => kernel_rfl) (by as_aux_lemma => kernel_rfl) (fun _ _ _ h => h) (Or.inl ⟨by rfl, ?_⟩) hHeld ?_
  rotate_left
  · intro w hSw
    clear hSw
    go_simp
    try with_reducible rfl
  try simp only [Act.put, List.setIfInBounds_toArray, List.set_cons_zero, List.set_cons_succ]
  refine wpAnyH_take (i := 4) (oi := wO4) (v := ?_) rfl (by as_aux_lemma => kernel_rfl) (by as_aux_lemma => kernel_rfl) (by as_aux_lemma => kernel_rfl) (fun _ _ _ h => h) (Or.inl ⟨by rfl, ?_⟩) hHeld ?_
  rotate_left
  · intro w hSw
    clear hSw
    go_simp
    try with_reducible rfl
  try simp only [Act.put, List.setIfInBounds_toArray, List.set_cons_zero, List.set_cons_succ]
  refine wpAnyH_take (i := 5) (oi := wO5) (v := ?_) rfl (by as_aux_lemma => kernel_rfl) (by as_aux_lemma => kernel_rfl) (by as_aux_lemma => kernel_rfl) (fun _ _ _ h => h) (Or.inl ⟨by rfl, ?_⟩) hHeld ?_
  rotate_left
  · intro w hSw
    clear hSw
    go_simp
    try with_reducible rfl
  try simp only [Act.put, List.setIfInBounds_toArray, List.set_cons_zero, List.set_cons_succ]
  refine wpAnyH_take (i := 6) (oi := wO6) (v := ?_) rfl (by as_aux_lemma => kernel_rfl) (by as_aux_lemma => kernel_rfl) (by as_aux_lemma => kernel_rfl) (fun _ _ _ h => h) (Or.inl ⟨by rfl, ?_⟩) hHeld ?_
  rotate_left
  · intro w hSw
    clear hSw
    go_simp
    try with_reducible rfl
  try simp only [Act.put, List.setIfInBounds_toArray, List.set_cons_zero, List.set_cons_succ]
  refine wpAnyH_take (i := 7) (oi := wO7) (v := ?_) rfl (by as_aux_lemma => kernel_rfl) (by as_aux_lemma => kernel_rfl) (by as_aux_lemma => kernel_rfl) (fun _ _ _ h => h) (Or.inl ⟨by rfl, ?_⟩) hHeld ?_
  rotate_left
  · intro w hSw
    clear hSw
    go_simp
    try with_reducible rfl
  try simp only [Act.put, List.setIfInBounds_toArray, List.set_cons_zero, List.set_cons_succ]
  refine wpAnyH_take (i := 8) (oi := wO8) (v := ?_) rfl (by as_aux_lemma => kernel_rfl) (by as_aux_lemma => kernel_rfl) (by as_aux_lemma => kernel_rfl) (fun _ _ _ h => h) (Or.inl ⟨by rfl, ?_⟩) hHeld ?_
  rotate_left
  · intro w hSw
    clear hSw
    go_simp
    try with_reducible rfl
  try simp only [Act.put, List.setIfInBounds_toArray, List.set_cons_zero, List.set_cons_succ]
  refine wpAnyH_take (i := 9) (oi := wO9) (v := ?_) rfl (by as_aux_lemma => kernel_rfl) (by as_aux_lemma => kernel_rfl) (by as_aux_lemma => kernel_rfl) (fun _ _ _ h => h) (Or.inl ⟨by rfl, ?_⟩) hHeld ?_
  rotate_left
  · intro w hSw
    clear hSw
    go_simp
    try with_reducible rfl
  try simp only [Act.put, List.setIfInBounds_toArray, List.set_cons_zero, List.set_cons_succ]
  refine wpAnyH_take (i := 10) (oi := wO10) (v := ?_) rfl (by as_aux_lemma => kernel_rfl) (by as_aux_lemma => kernel_rfl) (by as_aux_lemma => kernel_rfl) (fun _ _ _ h => h) (Or.inl ⟨by rfl, ?_⟩) hHeld ?_
  rotate_left
  · intro w hSw
    clear hSw
    go_simp
    try with_reducible rfl
  try simp only [Act.put, List.setIfInBounds_toArray, List.set_cons_zero, List.set_cons_succ]
  refine wpAnyH_take (i := 11) (oi := wO11) (v := ?_) rfl (by as_aux_lemma => kernel_rfl) (by as_aux_lemma => kernel_rfl) (by as_aux_lemma => kernel_rfl) (fun _ _ _ h => h) (Or.inl ⟨by rfl, ?_⟩) hHeld ?_
  rotate_left
  · intro w hSw
    clear hSw
    go_simp
    try with_reducible rfl
  try simp only [Act.put, List.setIfInBounds_toArray, List.set_cons_zero, List.set_cons_succ]
  refine wpAnyH_take (i := 12) (oi := wO12) (v := ?_) rfl (by as_aux_lemma => kernel_rfl) (by as_aux_lemma => kernel_rfl) (by as_aux_lemma => kernel_rfl) (fun _ _ _ h => h) (Or.inl ⟨by rfl, ?_⟩) hHeld ?_
  rotate_left
  · intro w hSw
    clear hSw
    go_simp
    try with_reducible rfl
  try simp only [Act.put, List.setIfInBounds_toArray, List.set_cons_zero, List.set_cons_succ]
  refine wpAnyH_take (i := 13) (oi := wO13) (v := ?_) rfl (by as_aux_lemma => kernel_rfl) (by as_aux_lemma => kernel_rfl) (by as_aux_lemma => kernel_rfl) (fun _ _ _ h => h) (Or.inl ⟨by rfl, ?_⟩) hHeld ?_
  rotate_left
  · intro w hSw
    clear hSw
    go_simp
    try with_reducible rfl
  try simp only [Act.put, List.setIfInBounds_toArray, List.set_cons_zero, List.set_cons_succ]
  refine wpAnyH_take (i := 14) (oi := wO14) (v := ?_) rfl (by as_aux_lemma => kernel_rfl) (by as_aux_lemma => kernel_rfl) (by as_aux_lemma => kernel_rfl) (fun _ _ _ h => h) (Or.inl ⟨by rfl, ?_⟩) hHeld ?_
  rotate_left
  · intro w hSw
    clear hSw
    go_simp
    try with_reducible rfl
  try simp only [Act.put, List.setIfInBounds_toArray, List.set_cons_zero, List.set_cons_succ]
  refine wpAnyH_take (i := 15) (oi := wO15) (v := ?_) rfl (by as_aux_lemma => kernel_rfl) (by as_aux_lemma => kernel_rfl) (by as_aux_lemma => kernel_rfl) (fun _ _ _ h => h) (Or.inl ⟨by rfl, ?_⟩) hHeld ?_
  rotate_left
  · intro w hSw
    clear hSw
    go_simp
    try with_reducible rfl
  try simp only [Act.put, List.setIfInBounds_toArray, List.set_cons_zero, List.set_cons_succ]
  refine wpAnyH_take (i := 16) (oi := wO16) (v := ?_) rfl (by as_aux_lemma => kernel_rfl) (by as_aux_lemma => kernel_rfl) (by as_aux_lemma => kernel_rfl) (fun _ _ _ h => h) (Or.inl ⟨by rfl, ?_⟩) hHeld ?_
  rotate_left
  · intro w hSw
    clear hSw
    go_simp
    try with_reducible rfl
  try simp only [Act.put, List.setIfInBounds_toArray, List.set_cons_zero, List.set_cons_succ]
  refine wpAnyH_take (i := 17) (oi := wO17) (v := ?_) rfl (by as_aux_lemma => kernel_rfl) (by as_aux_lemma => kernel_rfl) (by as_aux_lemma => kernel_rfl) (fun _ _ _ h => h) (Or.inl ⟨by rfl, ?_⟩) hHeld ?_
  rotate_left
  · intro w hSw
    clear hSw
    go_simp
    try with_reducible rfl
  try simp only [Act.put, List.setIfInBounds_toArray, List.set_cons_zero, List.set_cons_succ]
  refine wpAnyH_take (i := 18) (oi := wO18) (v := ?_) rfl (by as_aux_lemma => kernel_rfl) (by as_aux_lemma => kernel_rfl) (by as_aux_lemma => kernel_rfl) (fun _ _ _ h => h) (Or.inl ⟨by rfl, ?_⟩) hHeld ?_
  rotate_left
  · intro w hSw
    clear hSw
    go_simp
    try with_reducible rfl
  try simp only [Act.put, List.setIfInBounds_toArray, List.set_cons_zero, List.set_cons_succ]
  refine wpAnyH_take (i := 19) (oi := wO19) (v := ?_) rfl (by as_aux_lemma => kernel_rfl) (by as_aux_lemma => kernel_rfl) (by as_aux_lemma => kernel_rfl) (fun _ _ _ h => h) (Or.inl ⟨by rfl, ?_⟩) hHeld ?_
  rotate_left
  · intro w hSw
    clear hSw
    go_simp
    try with_reducible rfl
  try simp only [Act.put, List.setIfInBounds_toArray, List.set_cons_zero, List.set_cons_succ]
  refine wpAnyH_take (i := 20) (oi := wO20) (v := ?_) rfl (by as_aux_lemma => kernel_rfl) (by as_aux_lemma => kernel_rfl) (by as_aux_lemma => kernel_rfl) (fun _ _ _ h => h) (Or.inl ⟨by rfl, ?_⟩) hHeld ?_
  rotate_left
  · intro w hSw
    clear hSw
    go_simp
    try with_reducible rfl
  try simp only [Act.put, List.setIfInBounds_toArray, List.set_cons_zero, List.set_cons_succ]
  refine wpAnyH_take (i := 21) (oi := wO21) (v := ?_) rfl (by as_aux_lemma => kernel_rfl) (by as_aux_lemma => kernel_rfl) (by as_aux_lemma => kernel_rfl) (fun _ _ _ h => h) (Or.inl ⟨by rfl, ?_⟩) hHeld ?_
  rotate_left
  · intro w hSw
    clear hSw
    go_simp
    try with_reducible rfl
  try simp only [Act.put, List.setIfInBounds_toArray, List.set_cons_zero, List.set_cons_succ]
  refine wpAnyH_take (i := 22) (oi := wO22) (v := ?_) rfl (by as_aux_lemma => kernel_rfl) (by as_aux_lemma => kernel_rfl) (by as_aux_lemma => kernel_rfl) (fun _ _ _ h => h) (Or.inl ⟨by rfl, ?_⟩) hHeld ?_
  rotate_left
  · intro w hSw
    clear hSw
    go_simp
    try with_reducible rfl
  try simp only [Act.put, List.setIfInBounds_toArray, List.set_cons_zero, List.set_cons_succ]
  refine wpAnyH_take (i := 23) (oi := wO23) (v := ?_) rfl (by as_aux_lemma => kernel_rfl) (by as_aux_lemma => kernel_rfl) (by as_aux_lemma => kernel_rfl) (fun _ _ _ h => h) (Or.inl ⟨by rfl, ?_⟩) hHeld ?_
  rotate_left
  · intro w hSw
    clear hSw
    go_simp
    try with_reducible rfl
  try simp only [Act.put, List.setIfInBounds_toArray, List.set_cons_zero, List.set_cons_succ]
  refine wpAnyH_take (i := 24) (oi := wO24) (v := ?_) rfl (by as_aux_lemma => kernel_rfl) (by as_aux_lemma => kernel_rfl) (by as_aux_lemma => kernel_rfl) (fun _ _ _ h => h) (Or.inl ⟨by rfl, ?_⟩) hHeld ?_
  rotate_left
  · intro w hSw
    clear hSw
    go_simp
    try with_reducible rfl
  try simp only [Act.put, List.setIfInBounds_toArray, List.set_cons_zero, List.set_cons_succ]
  refine wpAnyH_take (i := 25) (oi := wO25) (v := ?_) rfl (by as_aux_lemma => kernel_rfl) (by as_aux_lemma => kernel_rfl) (by as_aux_lemma => kernel_rfl) (fun _ _ _ h => h) (Or.inl ⟨by rfl, ?_⟩) hHeld ?_
  rotate_left
  · intro w hSw
    clear hSw
    go_simp
    try with_reducible rfl
  try simp only [Act.put, List.setIfInBounds_toArray, List.set_cons_zero, List.set_cons_succ]
  refine wpAnyH_take (i := 26) (oi := wO26) (v := ?_) rfl (by as_aux_lemma => kernel_rfl) (by as_aux_lemma => kernel_rfl) (by as_aux_lemma => kernel_rfl) (fun _ _ _ h => h) (Or.inl ⟨by rfl, ?_⟩) hHeld ?_
  rotate_left
  · intro w hSw
    have hx := HAT.out.below hSw hlt
    dsimp only [NlAt, tenN] at hx
    obtain ⟨x0, x1, x2, x3, x4, x5⟩ := hx
    clear hSw
    go_simp
    try with_reducible rfl
  try simp only [Act.put, List.setIfInBounds_toArray, List.set_cons_zero, List.set_cons_succ]
  refine wpAnyH_ready (rs := [27]) (by as_aux_lemma => kernel_rfl) (by simp) ?_
  refine AllReadyH.cons (o := wO27) rfl (fun K hK => ?_) AllReadyH.nil
  go_simp
  refine (ten_any 1 _).mono ?_
  rintro e w4 ⟨rfl, hb⟩
  go_wp2_with fail
  refine hK.out _ _ (hHeld.trans (hb.mono hHeld.size)) (fun hHeld => ?_)
  clear hK K
  try simp only [Act.put, List.setIfInBounds_toArray, List.set_cons_zero, List.set_cons_succ]
  refine wpAnyH_take (i := 28) (oi := wO28) (v := ?_) rfl (by as_aux_lemma => kernel_rfl) (by as_aux_lemma => kernel_rfl) (by as_aux_lemma => kernel_rfl) (fun _ _ _ h => h) (Or.inl ⟨by rfl, ?_⟩) hHeld ?_
  rotate_left
  · intro w hSw
    clear hSw
    go_simp
    try with_reducible rfl
  try simp only [Act.put, List.setIfInBounds_toArray, List.set_cons_zero, List.set_cons_succ]
  refine wpAnyH_take (i := 29) (oi := wO29) (v := ?_) rfl (by as_aux_lemma => kernel_rfl) (by as_aux_lemma => kernel_rfl) (by as_aux_lemma => kernel_rfl) (fun _ _ _ h => h) (Or.inl ⟨by rfl, ?_⟩) hHeld ?_
  rotate_left
  · intro w hSw
    clear hSw
    go_simp
    try with_reducible rfl
  try simp only [Act.put, List.setIfInBounds_toArray, List.set_cons_zero, List.set_cons_succ]
  refine wpAnyH_take (i := 30) (oi := wO30) (v := ?_) rfl (by as_aux_lemma => kernel_rfl) (by as_aux_lemma => kernel_rfl) (by as_aux_lemma => kernel_rfl) (fun _ _ _ h => h) (Or.inl ⟨by rfl, ?_⟩) hHeld ?_
  rotate_left
  · intro w hSw
    clear hSw
    go_simp
    try with_reducible rfl
  try simp only [Act.put, List.setIfInBounds_toArray, List.set_cons_zero, List.set_cons_succ]
  refine wpAnyH_done (by as_aux_lemma => kernel_rfl) ?_ _
  have HB4 := Lib.hid (HB3.out.trans (hHeld.mono HB3.out.size))
  clear hHeld
  go_wp2_with fail
  go_ret
  exact ⟨rfl, HB4.out⟩
end Go.Proofs.Ytocbacpbckejdaa
