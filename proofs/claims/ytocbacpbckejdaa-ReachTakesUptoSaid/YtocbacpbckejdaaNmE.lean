/-
  What the document's reading of one told prefix gives, as nlri.Decode's: plain law; contract of heraldref05.Number. Conditions: sizes.
-/
import Derived.Test.YtocbacpbckejdaaNmQ
import Derived.BigRegion
set_option linter.unusedVariables false
set_option linter.unusedSimpArgs false
namespace Go.Proofs.Ytocbacpbckejdaa
open Go.RowKit

theorem tN_bts {l : List UInt8} {k : Nat} (h : k ≤ l.length) : tN (bts l) k = beVal (l.take k) := by
  unfold tN
  rw [if_pos (by rw [bts_size]; exact h), bts_list]
theorem tR_bts {l : List UInt8} {k : Nat} (h : k ≤ l.length) : tR (bts l) k = bts (l.drop k) := by
  unfold tR
  rw [if_pos (by rw [bts_size]; exact h), bts_extract, bts_size]
  congr 1
  apply List.take_of_length_le
  rw [List.length_drop]
  exact Nat.le_refl _
theorem rdIf_in {on : Bool} {l : List UInt8} {k : Nat} {bad : Bool} (h : (if on then k else 0) ≤ l.length) : rdIf on (bts l) k bad = (if on then beVal (l.take k) else 0, bts (l.drop (if on then k else 0)), bad) := by
  unfold rdIf
  cases on
  · simp
  · simp only [if_true] at h ⊢
    rw [tN_bts h, tR_bts h]
    congr 2
    unfold tW
    rw [decide_eq_false (by rw [bts_size]; omega), Bool.or_false]
theorem rdIf_out {on : Bool} {t : ByteArray} {k : Nat} {bad : Bool} (h : bad = true ∨ (on = true ∧ t.size < k)) : (rdIf on t k bad).2.2 = true := by
  unfold rdIf
  rcases h with h | ⟨h1, h2⟩
  · subst h
    cases on
    · rfl
    · simp [tW]
  · subst h1
    show (bad || decide (t.size < k)) = true
    rw [decide_eq_true h2, Bool.or_true]
/-- bytes ahead of the address -/
def aN (add : Bool) : Nat := if add then 4 else 0
def lN (f : Int) : Nat := if labB f then 3 else 0
def pN (f : Int) : Nat := if apB f then 8 else 0
theorem decStep_long {f : Int} {add : Bool} {l : List UInt8} (h : aN add + 1 + lN f + pN f ≤ l.length) :
    decStep f add (bts l) = decTail f (if add then beVal (l.take 4) else 0) (labOf (labB f) (if labB f then beVal ((l.drop (aN add + 1)).take 3) else 0)) (if apB f then beVal ((l.drop (aN add + 1 + lN f)).take 8) else 0)
      ((beVal ((l.drop (aN add)).take 1) : Int) - aheadV f) (bts (l.drop (aN add + 1 + lN f + pN f))) (labB f && lBad (if labB f then beVal ((l.drop (aN add + 1)).take 3) else 0)) := by
  have r1 : rdIf add (bts l) 4 false = (if add then beVal (l.take 4) else 0, bts (l.drop (aN add)), false) := rdIf_in (by show aN add ≤ _; omega)
  have r2 : rdIf true (bts (l.drop (aN add))) 1 false = (beVal ((l.drop (aN add)).take 1), bts (l.drop (aN add + 1)), false) := by
    rw [rdIf_in (by rw [List.length_drop]; show 1 ≤ _; omega)]
    simp only [if_true, List.drop_drop]
  have r3 : rdIf (labB f) (bts (l.drop (aN add + 1))) 3 false = (if labB f then beVal ((l.drop (aN add + 1)).take 3) else 0, bts (l.drop (aN add + 1 + lN f)), false) := by
    rw [rdIf_in (by rw [List.length_drop]; show lN f ≤ _; omega), List.drop_drop]
    rfl
  have r4 : ∀ fl, rdIf (apB f) (bts (l.drop (aN add + 1 + lN f))) 8 fl = (if apB f then beVal ((l.drop (aN add + 1 + lN f)).take 8) else 0, bts (l.drop (aN add + 1 + lN f + pN f)), fl) := fun fl => by
    rw [rdIf_in (by rw [List.length_drop]; show pN f ≤ _; omega), List.drop_drop]
    rfl
  exact decStep_eq r1 r2 r3 (Bool.false_or _) (r4 _)
theorem decStep_short {f : Int} {add : Bool} {l : List UInt8} (h : l.length < aN add + 1 + lN f + pN f) : decStep f add (bts l) = none := by
  have key : ∀ z1 z3 z4 (bits : Int) t4 b4, b4 = true → decTail f z1 z3 z4 bits t4 b4 = none := fun z1 z3 z4 bits t4 b4 hb => by subst hb; exact tail_bad
  unfold decStep
  refine key _ _ _ _ _ _ ?_
  by_cases h1 : l.length < aN add
  · refine rdIf_out (Or.inl ?_)
    rw [Bool.or_eq_true]
    left
    refine rdIf_out (Or.inl (rdIf_out (Or.inl (rdIf_out (Or.inr ?_)))))
    unfold aN at h1
    cases add
    · simp at h1
    · exact ⟨rfl, by rw [bts_size]; simpa using h1⟩
  have r1 : rdIf add (bts l) 4 false = (if add then beVal (l.take 4) else 0, bts (l.drop (aN add)), false) := rdIf_in (by show aN add ≤ _; omega)
  simp only [r1]
  by_cases h2 : l.length < aN add + 1
  · refine rdIf_out (Or.inl ?_)
    rw [Bool.or_eq_true]
    left
    refine rdIf_out (Or.inl (rdIf_out (Or.inr ⟨rfl, ?_⟩)))
    rw [bts_size, List.length_drop]
    omega
  have r2 : rdIf true (bts (l.drop (aN add))) 1 false = (beVal ((l.drop (aN add)).take 1), bts (l.drop (aN add + 1)), false) := by
    rw [rdIf_in (by rw [List.length_drop]; show 1 ≤ _; omega)]
    simp only [if_true, List.drop_drop]
  simp only [r2]
  by_cases h3 : l.length < aN add + 1 + lN f
  · refine rdIf_out (Or.inl ?_)
    rw [Bool.or_eq_true]
    left
    refine rdIf_out (Or.inr ?_)
    unfold lN at h3
    cases hl : labB f
    · rw [hl] at h3
      simp at h3
      omega
    · rw [hl] at h3
      refine ⟨rfl, ?_⟩
      rw [bts_size, List.length_drop]
      simp only [if_true] at h3
      omega
  have r3 : rdIf (labB f) (bts (l.drop (aN add + 1))) 3 false = (if labB f then beVal ((l.drop (aN add + 1)).take 3) else 0, bts (l.drop (aN add + 1 + lN f)), false) := by
    rw [rdIf_in (by rw [List.length_drop]; show lN f ≤ _; omega), List.drop_drop]
    rfl
  simp only [r3]
  refine rdIf_out (Or.inr ?_)
  unfold pN at h
  cases hp : apB f
  · rw [hp] at h
    simp at h
    omega
  · rw [hp] at h
    refine ⟨rfl, ?_⟩
    rw [bts_size, List.length_drop]
    simp only [if_true] at h
    omega
theorem four_of (s : ByteArray) (h : 4 ≤ s.size) : ∃ (x0 x1 x2 x3 : UInt8) (r : List UInt8), s.data.toList = x0 :: x1 :: x2 :: x3 :: r := by
  have e : s.data.toList.length = s.size := by rw [Array.length_toList]; rfl
  match hs : s.data.toList, e with
  | [], e => simp at e; omega
  | [_], e => simp at e; omega
  | [_, _], e => simp at e; omega
  | [_, _, _], e => simp at e; omega
  | x0 :: x1 :: x2 :: x3 :: r, _ => exact ⟨x0, x1, x2, x3, r, rfl⟩
theorem or1 (x0 x1 : UInt8) : bits .or .u32 ((x0.toNat : Int) * 16777216) ((x1.toNat : Int) * 65536) = (x0.toNat : Int) * 16777216 + (x1.toNat : Int) * 65536 := by
  have l0 := x0.toNat_lt
  have l1 := x1.toNat_lt
  rw [u32_or _ _ (by omega) (by omega) (by omega) (by omega), nat_join 24 _ _ (by omega) (by omega)]
  omega
theorem or2 (x0 x1 x2 : UInt8) : bits .or .u32 ((x0.toNat : Int) * 16777216 + (x1.toNat : Int) * 65536) ((x2.toNat : Int) * 256) = (x0.toNat : Int) * 16777216 + (x1.toNat : Int) * 65536 + (x2.toNat : Int) * 256 := by
  have l0 := x0.toNat_lt
  have l1 := x1.toNat_lt
  have l2 := x2.toNat_lt
  rw [u32_or _ _ (by omega) (by omega) (by omega) (by omega), nat_join 16 _ _ (by omega) (by omega)]
  omega
theorem or3 (x0 x1 x2 x3 : UInt8) : bits .or .u32 ((x0.toNat : Int) * 16777216 + (x1.toNat : Int) * 65536 + (x2.toNat : Int) * 256) (x3.toNat : Int) = (x0.toNat : Int) * 16777216 + (x1.toNat : Int) * 65536 + (x2.toNat : Int) * 256 + (x3.toNat : Int) := by
  have l0 := x0.toNat_lt
  have l1 := x1.toNat_lt
  have l2 := x2.toNat_lt
  have l3 := x3.toNat_lt
  rw [u32_or _ _ (by omega) (by omega) (by omega) (by omega), nat_join 8 _ _ (by omega) (by omega)]
  omega
theorem run_index_str (w : World) (s : ByteArray) (k : Nat) (x : UInt8) (hx : s.data.toList[k]? = some x) {z : Int} (hz : (k : Int) = z) : (Instr.index 9 (.string s) (.int .i64 z)).run Try.prog w = .ok (.int .u8 (x.toNat : Nat)) w := by
  subst hz
  have hk := (List.getElem?_eq_some_iff.1 hx).1
  have e : s.data.toList.length = s.size := by rw [Array.length_toList]; rfl
  have hlt : k < s.size := by omega
  have hg : s[k] = x := by
    have := (List.getElem?_eq_some_iff.1 hx).2
    rw [← this]
    rfl
  simp [go_sem, hlt, hg]
abbrev nO0 : Oper := { dst := some 3, op := Op.move (Operand.tmp 0), type := 9, pos := "ref.go:116", after := #[], guard := none }
abbrev nO1 : Oper := { dst := some 4, op := Op.index 9 (Operand.tmp 3) (Operand.const (Value.int IntKind.i64 0)), type := 5, pos := "ref.go:116", after := #[{ on := 0, ground := Ground.data }], guard := none }
abbrev nO2 : Oper := { dst := some 5, op := Op.convert 5 45 (Operand.tmp 4), type := 45, pos := "ref.go:116", after := #[{ on := 1, ground := Ground.data }], guard := none }
abbrev nO3 : Oper := { dst := some 6, op := Op.binOp BinOp.shl 45 (Operand.tmp 5) (Operand.const (Value.int IntKind.u64 24)) 83, type := 45, pos := "ref.go:116", after := #[{ on := 2, ground := Ground.data }], guard := none }
abbrev nO4 : Oper := { dst := some 7, op := Op.move (Operand.tmp 0), type := 9, pos := "ref.go:116", after := #[], guard := none }
abbrev nO5 : Oper := { dst := some 8, op := Op.index 9 (Operand.tmp 7) (Operand.const (Value.int IntKind.i64 1)), type := 5, pos := "ref.go:116", after := #[{ on := 4, ground := Ground.data }], guard := none }
abbrev nO6 : Oper := { dst := some 9, op := Op.convert 5 45 (Operand.tmp 8), type := 45, pos := "ref.go:116", after := #[{ on := 5, ground := Ground.data }], guard := none }
abbrev nO7 : Oper := { dst := some 10, op := Op.binOp BinOp.shl 45 (Operand.tmp 9) (Operand.const (Value.int IntKind.u64 16)) 83, type := 45, pos := "ref.go:116", after := #[{ on := 6, ground := Ground.data }], guard := none }
abbrev nO8 : Oper := { dst := some 11, op := Op.binOp BinOp.or 45 (Operand.tmp 6) (Operand.tmp 10) 45, type := 45, pos := "ref.go:116", after := #[{ on := 3, ground := Ground.data }, { on := 7, ground := Ground.data }], guard := none }
abbrev nO9 : Oper := { dst := some 12, op := Op.move (Operand.tmp 0), type := 9, pos := "ref.go:116", after := #[], guard := none }
abbrev nO10 : Oper := { dst := some 13, op := Op.index 9 (Operand.tmp 12) (Operand.const (Value.int IntKind.i64 2)), type := 5, pos := "ref.go:116", after := #[{ on := 9, ground := Ground.data }], guard := none }
abbrev nO11 : Oper := { dst := some 14, op := Op.convert 5 45 (Operand.tmp 13), type := 45, pos := "ref.go:116", after := #[{ on := 10, ground := Ground.data }], guard := none }
abbrev nO12 : Oper := { dst := some 15, op := Op.binOp BinOp.shl 45 (Operand.tmp 14) (Operand.const (Value.int IntKind.u64 8)) 83, type := 45, pos := "ref.go:116", after := #[{ on := 11, ground := Ground.data }], guard := none }
abbrev nO13 : Oper := { dst := some 16, op := Op.binOp BinOp.or 45 (Operand.tmp 11) (Operand.tmp 15) 45, type := 45, pos := "ref.go:116", after := #[{ on := 8, ground := Ground.data }, { on := 12, ground := Ground.data }], guard := none }
abbrev nO14 : Oper := { dst := some 17, op := Op.move (Operand.tmp 0), type := 9, pos := "ref.go:116", after := #[], guard := none }
abbrev nO15 : Oper := { dst := some 18, op := Op.index 9 (Operand.tmp 17) (Operand.const (Value.int IntKind.i64 3)), type := 5, pos := "ref.go:116", after := #[{ on := 14, ground := Ground.data }], guard := none }
abbrev nO16 : Oper := { dst := some 19, op := Op.convert 5 45 (Operand.tmp 18), type := 45, pos := "ref.go:116", after := #[{ on := 15, ground := Ground.data }], guard := none }
abbrev nO17 : Oper := { dst := some 20, op := Op.binOp BinOp.or 45 (Operand.tmp 16) (Operand.tmp 19) 45, type := 45, pos := "ref.go:116", after := #[{ on := 13, ground := Ground.data }, { on := 16, ground := Ground.data }], guard := none }
abbrev nO18 : Oper := { dst := some 2, op := Op.assign (Operand.tmp 20), type := 45, pos := "ref.go:116", after := #[{ on := 17, ground := Ground.data }, { on := 0, ground := Ground.phase }, { on := 1, ground := Ground.phase }, { on := 2, ground := Ground.phase }, { on := 3, ground := Ground.phase }, { on := 4, ground := Ground.phase }, { on := 5, ground := Ground.phase }, { on := 6, ground := Ground.phase }, { on := 7, ground := Ground.phase }, { on := 8, ground := Ground.phase }, { on := 9, ground := Ground.phase }, { on := 10, ground := Ground.phase }, { on := 11, ground := Ground.phase }, { on := 12, ground := Ground.phase }, { on := 13, ground := Ground.phase }, { on := 14, ground := Ground.phase }, { on := 15, ground := Ground.phase }, { on := 16, ground := Ground.phase }, { on := 17, ground := Ground.phase }], guard := none }
set_option maxRecDepth 100000 in
theorem rnumber5_any (s : ByteArray) (w : World) (h : 4 ≤ s.size) (hm : s.size ≤ 140737488355328) : Calls Try.prog 72 #[.string s] w fun e w' => e = .returned (.int .u32 (beVal (s.data.toList.take 4) : Nat)) ∧ Below w.heap.size w w' := by
  obtain ⟨x0, x1, x2, x3, r, hl⟩ := four_of s h
  have HL := Lib.hid hl
  have i0 : ∀ w, (Instr.index 9 (.string s) (.int .i64 0)).run Try.prog w = .ok (.int .u8 (x0.toNat : Nat)) w := fun w => run_index_str w s 0 x0 (by rw [hl]; rfl) rfl
  have i1 : ∀ w, (Instr.index 9 (.string s) (.int .i64 1)).run Try.prog w = .ok (.int .u8 (x1.toNat : Nat)) w := fun w => run_index_str w s 1 x1 (by rw [hl]; rfl) rfl
  have i2 : ∀ w, (Instr.index 9 (.string s) (.int .i64 2)).run Try.prog w = .ok (.int .u8 (x2.toNat : Nat)) w := fun w => run_index_str w s 2 x2 (by rw [hl]; rfl) rfl
  have i3 : ∀ w, (Instr.index 9 (.string s) (.int .i64 3)).run Try.prog w = .ok (.int .u8 (x3.toNat : Nat)) w := fun w => run_index_str w s 3 x3 (by rw [hl]; rfl) rfl
  have l0 := x0.toNat_lt
  have l1 := x1.toNat_lt
  have l2 := x2.toNat_lt
  have l3 := x3.toNat_lt
  clear hl
  go_enter Try.func72, Try.ntmps72
  go_wp2_with fail
  refine wp_region_held_drew (S := fun w' => Below w.heap.size w w') (by kernel_rfl) (below_drewN (Below.refl _ _) 1) (fun hHeld => ?_)
  refine wpAnyH_take (i := 0) (oi := nO0) (v := ?_) rfl (by kernel_rfl) (by kernel_rfl) (by kernel_rfl) (fun _ _ _ h => h) (Or.inl ⟨by rfl, ?_⟩) hHeld ?_
  rotate_left
  · intro w hSw
    clear hSw
    try dsimp only [nO0]
    go_simp
    try with_reducible rfl
  try simp only [nO0, Act.put, List.setIfInBounds_toArray, List.set_cons_zero, List.set_cons_succ]
  refine wpAnyH_take (i := 1) (oi := nO1) (v := .int .u8 (x0.toNat : Nat)) rfl (by kernel_rfl) (by kernel_rfl) (by kernel_rfl) (fun _ _ _ h => h) (Or.inl ⟨by rfl, ?_⟩) hHeld ?_
  · intro w hSw
    clear hSw
    try dsimp only [nO1]
    go_simp
    try rfl
  try simp only [nO1, Act.put, List.setIfInBounds_toArray, List.set_cons_zero, List.set_cons_succ]
  refine wpAnyH_take (i := 2) (oi := nO2) (v := .int .u32 (x0.toNat : Nat)) rfl (by kernel_rfl) (by kernel_rfl) (by kernel_rfl) (fun _ _ _ h => h) (Or.inl ⟨by rfl, ?_⟩) hHeld ?_
  · intro w hSw
    clear hSw
    try dsimp only [nO2]
    go_simp
    exact IntWalk.u32_in _ (by omega)
  try simp only [nO2, Act.put, List.setIfInBounds_toArray, List.set_cons_zero, List.set_cons_succ]
  refine wpAnyH_take (i := 3) (oi := nO3) (v := .int .u32 ((x0.toNat : Int) * 16777216)) rfl (by kernel_rfl) (by kernel_rfl) (by kernel_rfl) (fun _ _ _ h => h) (Or.inl ⟨by rfl, ?_⟩) hHeld ?_
  · intro w hSw
    clear hSw
    try dsimp only [nO3]
    go_simp
    exact IntWalk.u32_in _ (by omega)
  try simp only [nO3, Act.put, List.setIfInBounds_toArray, List.set_cons_zero, List.set_cons_succ]
  refine wpAnyH_take (i := 4) (oi := nO4) (v := ?_) rfl (by kernel_rfl) (by kernel_rfl) (by kernel_rfl) (fun _ _ _ h => h) (Or.inl ⟨by rfl, ?_⟩) hHeld ?_
  rotate_left
  · intro w hSw
    clear hSw
    try dsimp only [nO4]
    go_simp
    try with_reducible rfl
  try simp only [nO4, Act.put, List.setIfInBounds_toArray, List.set_cons_zero, List.set_cons_succ]
  refine wpAnyH_take (i := 5) (oi := nO5) (v := .int .u8 (x1.toNat : Nat)) rfl (by kernel_rfl) (by kernel_rfl) (by kernel_rfl) (fun _ _ _ h => h) (Or.inl ⟨by rfl, ?_⟩) hHeld ?_
  · intro w hSw
    clear hSw
    try dsimp only [nO5]
    go_simp
    try rfl
  try simp only [nO5, Act.put, List.setIfInBounds_toArray, List.set_cons_zero, List.set_cons_succ]
  refine wpAnyH_take (i := 6) (oi := nO6) (v := .int .u32 (x1.toNat : Nat)) rfl (by kernel_rfl) (by kernel_rfl) (by kernel_rfl) (fun _ _ _ h => h) (Or.inl ⟨by rfl, ?_⟩) hHeld ?_
  · intro w hSw
    clear hSw
    try dsimp only [nO6]
    go_simp
    exact IntWalk.u32_in _ (by omega)
  try simp only [nO6, Act.put, List.setIfInBounds_toArray, List.set_cons_zero, List.set_cons_succ]
  refine wpAnyH_take (i := 7) (oi := nO7) (v := .int .u32 ((x1.toNat : Int) * 65536)) rfl (by kernel_rfl) (by kernel_rfl) (by kernel_rfl) (fun _ _ _ h => h) (Or.inl ⟨by rfl, ?_⟩) hHeld ?_
  · intro w hSw
    clear hSw
    try dsimp only [nO7]
    go_simp
    exact IntWalk.u32_in _ (by omega)
  try simp only [nO7, Act.put, List.setIfInBounds_toArray, List.set_cons_zero, List.set_cons_succ]
  refine wpAnyH_take (i := 8) (oi := nO8) (v := .int .u32 ((x0.toNat : Int) * 16777216 + (x1.toNat : Int) * 65536)) rfl (by kernel_rfl) (by kernel_rfl) (by kernel_rfl) (fun _ _ _ h => h) (Or.inl ⟨by rfl, ?_⟩) hHeld ?_
  · intro w hSw
    clear hSw
    try dsimp only [nO8]
    go_simp
    exact or1 x0 x1
  try simp only [nO8, Act.put, List.setIfInBounds_toArray, List.set_cons_zero, List.set_cons_succ]
  refine wpAnyH_take (i := 9) (oi := nO9) (v := ?_) rfl (by kernel_rfl) (by kernel_rfl) (by kernel_rfl) (fun _ _ _ h => h) (Or.inl ⟨by rfl, ?_⟩) hHeld ?_
  rotate_left
  · intro w hSw
    clear hSw
    try dsimp only [nO9]
    go_simp
    try with_reducible rfl
  try simp only [nO9, Act.put, List.setIfInBounds_toArray, List.set_cons_zero, List.set_cons_succ]
  refine wpAnyH_take (i := 10) (oi := nO10) (v := .int .u8 (x2.toNat : Nat)) rfl (by kernel_rfl) (by kernel_rfl) (by kernel_rfl) (fun _ _ _ h => h) (Or.inl ⟨by rfl, ?_⟩) hHeld ?_
  · intro w hSw
    clear hSw
    try dsimp only [nO10]
    go_simp
    try rfl
  try simp only [nO10, Act.put, List.setIfInBounds_toArray, List.set_cons_zero, List.set_cons_succ]
  refine wpAnyH_take (i := 11) (oi := nO11) (v := .int .u32 (x2.toNat : Nat)) rfl (by kernel_rfl) (by kernel_rfl) (by kernel_rfl) (fun _ _ _ h => h) (Or.inl ⟨by rfl, ?_⟩) hHeld ?_
  · intro w hSw
    clear hSw
    try dsimp only [nO11]
    go_simp
    exact IntWalk.u32_in _ (by omega)
  try simp only [nO11, Act.put, List.setIfInBounds_toArray, List.set_cons_zero, List.set_cons_succ]
  refine wpAnyH_take (i := 12) (oi := nO12) (v := .int .u32 ((x2.toNat : Int) * 256)) rfl (by kernel_rfl) (by kernel_rfl) (by kernel_rfl) (fun _ _ _ h => h) (Or.inl ⟨by rfl, ?_⟩) hHeld ?_
  · intro w hSw
    clear hSw
    try dsimp only [nO12]
    go_simp
    exact IntWalk.u32_in _ (by omega)
  try simp only [nO12, Act.put, List.setIfInBounds_toArray, List.set_cons_zero, List.set_cons_succ]
  refine wpAnyH_take (i := 13) (oi := nO13) (v := .int .u32 ((x0.toNat : Int) * 16777216 + (x1.toNat : Int) * 65536 + (x2.toNat : Int) * 256)) rfl (by kernel_rfl) (by kernel_rfl) (by kernel_rfl) (fun _ _ _ h => h) (Or.inl ⟨by rfl, ?_⟩) hHeld ?_
  · intro w hSw
    clear hSw
    try dsimp only [nO13]
    go_simp
    exact or2 x0 x1 x2
  try simp only [nO13, Act.put, List.setIfInBounds_toArray, List.set_cons_zero, List.set_cons_succ]
  refine wpAnyH_take (i := 14) (oi := nO14) (v := ?_) rfl (by kernel_rfl) (by kernel_rfl) (by kernel_rfl) (fun _ _ _ h => h) (Or.inl ⟨by rfl, ?_⟩) hHeld ?_
  rotate_left
  · intro w hSw
    clear hSw
    try dsimp only [nO14]
    go_simp
    try with_reducible rfl
  try simp only [nO14, Act.put, List.setIfInBounds_toArray, List.set_cons_zero, List.set_cons_succ]
  refine wpAnyH_take (i := 15) (oi := nO15) (v := .int .u8 (x3.toNat : Nat)) rfl (by kernel_rfl) (by kernel_rfl) (by kernel_rfl) (fun _ _ _ h => h) (Or.inl ⟨by rfl, ?_⟩) hHeld ?_
  · intro w hSw
    clear hSw
    try dsimp only [nO15]
    go_simp
    try rfl
  try simp only [nO15, Act.put, List.setIfInBounds_toArray, List.set_cons_zero, List.set_cons_succ]
  refine wpAnyH_take (i := 16) (oi := nO16) (v := .int .u32 (x3.toNat : Nat)) rfl (by kernel_rfl) (by kernel_rfl) (by kernel_rfl) (fun _ _ _ h => h) (Or.inl ⟨by rfl, ?_⟩) hHeld ?_
  · intro w hSw
    clear hSw
    try dsimp only [nO16]
    go_simp
    exact IntWalk.u32_in _ (by omega)
  try simp only [nO16, Act.put, List.setIfInBounds_toArray, List.set_cons_zero, List.set_cons_succ]
  refine wpAnyH_take (i := 17) (oi := nO17) (v := .int .u32 ((x0.toNat : Int) * 16777216 + (x1.toNat : Int) * 65536 + (x2.toNat : Int) * 256 + (x3.toNat : Int))) rfl (by kernel_rfl) (by kernel_rfl) (by kernel_rfl) (fun _ _ _ h => h) (Or.inl ⟨by rfl, ?_⟩) hHeld ?_
  · intro w hSw
    clear hSw
    try dsimp only [nO17]
    go_simp
    exact or3 x0 x1 x2 x3
  try simp only [nO17, Act.put, List.setIfInBounds_toArray, List.set_cons_zero, List.set_cons_succ]
  refine wpAnyH_take (i := 18) (oi := nO18) (v := ?_) rfl (by kernel_rfl) (by kernel_rfl) (by kernel_rfl) (fun _ _ _ h => h) (Or.inl ⟨by rfl, ?_⟩) hHeld ?_
  rotate_left
  · intro w hSw
    clear hSw
    try dsimp only [nO18]
    go_simp
    try with_reducible rfl
  try simp only [nO18, Act.put, List.setIfInBounds_toArray, List.set_cons_zero, List.set_cons_succ]
  refine wpAnyH_done (by as_aux_lemma => kernel_rfl) ?_ _
  clear hHeld
  go_wp2_with fail
  go_ret
  refine ⟨ret_int ?_, by go_grown⟩
  rw [HL.out]
  have e : beVal [x0, x1, x2, x3] = (((0 * 256 + x0.toNat) * 256 + x1.toNat) * 256 + x2.toNat) * 256 + x3.toNat := rfl
  show _ = ((beVal [x0, x1, x2, x3] : Nat) : Int)
  rw [e]
  omega
end Go.Proofs.Ytocbacpbckejdaa
