/-
  What is known of an attribute's type: attr.rowOf walked. Conditions: none.
-/
import Derived.Test.YtkcojblflebomaaGreatAbE
import Derived.Laws.EntriesVeiled
set_option linter.unusedVariables false
set_option linter.unusedSimpArgs false
namespace Go.Proofs.YtkcojblflebomaaGreat
open Go.RowKit Go.MapKept Go.Shelf
open Go.Lib hiding intOf

/-- a known type's bits, what is done with a wrong one, is it of an internal neighbour alone, and what takes it -/
def rowF (t : Nat) : Option (Int × Int × Bool × FuncId) :=
  if t = 1 then some (64, 2, false, 73) else
  if t = 2 then some (64, 2, false, 74) else
  if t = 3 then some (64, 2, false, 76) else
  if t = 4 then some (128, 2, false, 77) else
  if t = 5 then some (64, 2, true, 79) else
  if t = 6 then some (64, 1, false, 80) else
  if t = 7 then some (192, 1, false, 81) else
  if t = 8 then some (192, 2, false, 82) else
  if t = 9 then some (128, 2, true, 84) else
  if t = 10 then some (128, 2, true, 85) else
  if t = 16 then some (192, 2, false, 86) else
  if t = 32 then some (192, 2, false, 88) else
  none
def rowV : Option (Int × Int × Bool × FuncId) → Value
  | none => .tuple #[.agg #[.int .u8 0, .int .i64 0, .bool false, .nilFunc], .bool false]
  | some (b, wr, i, f) => .tuple #[.agg #[.int .u8 b, .int .i64 wr, .bool i, .func (.func f) #[] #[]], .bool true]
set_option maxHeartbeats 4000000 in
theorem row_1 (w : World) : Calls Tryz.prog 39 #[.int .u8 1] w fun e w' => e = .returned (rowV (rowF 1)) ∧ Below w.heap.size w w' := by
  go_enter Tryz.func39, Tryz.ntmps39
  go_wp2_with fail
  exact bodyPost_ret (v := .tuple #[.agg #[.int .u8 64, .int .i64 2, .bool false, .func (.func 73) #[] #[]], .bool true]) (by simp [results, Tryz.results39, go_sem]) rfl ⟨rfl, (Below.refl _ _).alloc (Nat.le_refl _) _⟩
set_option maxHeartbeats 4000000 in
theorem row_2 (w : World) : Calls Tryz.prog 39 #[.int .u8 2] w fun e w' => e = .returned (rowV (rowF 2)) ∧ Below w.heap.size w w' := by
  go_enter Tryz.func39, Tryz.ntmps39
  go_wp2_with fail
  exact bodyPost_ret (v := .tuple #[.agg #[.int .u8 64, .int .i64 2, .bool false, .func (.func 74) #[] #[]], .bool true]) (by simp [results, Tryz.results39, go_sem]) rfl ⟨rfl, (Below.refl _ _).alloc (Nat.le_refl _) _⟩
set_option maxHeartbeats 4000000 in
theorem row_3 (w : World) : Calls Tryz.prog 39 #[.int .u8 3] w fun e w' => e = .returned (rowV (rowF 3)) ∧ Below w.heap.size w w' := by
  go_enter Tryz.func39, Tryz.ntmps39
  go_wp2_with fail
  exact bodyPost_ret (v := .tuple #[.agg #[.int .u8 64, .int .i64 2, .bool false, .func (.func 76) #[] #[]], .bool true]) (by simp [results, Tryz.results39, go_sem]) rfl ⟨rfl, (Below.refl _ _).alloc (Nat.le_refl _) _⟩
set_option maxHeartbeats 4000000 in
theorem row_4 (w : World) : Calls Tryz.prog 39 #[.int .u8 4] w fun e w' => e = .returned (rowV (rowF 4)) ∧ Below w.heap.size w w' := by
  go_enter Tryz.func39, Tryz.ntmps39
  go_wp2_with fail
  exact bodyPost_ret (v := .tuple #[.agg #[.int .u8 128, .int .i64 2, .bool false, .func (.func 77) #[] #[]], .bool true]) (by simp [results, Tryz.results39, go_sem]) rfl ⟨rfl, (Below.refl _ _).alloc (Nat.le_refl _) _⟩
set_option maxHeartbeats 4000000 in
theorem row_5 (w : World) : Calls Tryz.prog 39 #[.int .u8 5] w fun e w' => e = .returned (rowV (rowF 5)) ∧ Below w.heap.size w w' := by
  go_enter Tryz.func39, Tryz.ntmps39
  go_wp2_with fail
  exact bodyPost_ret (v := .tuple #[.agg #[.int .u8 64, .int .i64 2, .bool true, .func (.func 79) #[] #[]], .bool true]) (by simp [results, Tryz.results39, go_sem]) rfl ⟨rfl, (Below.refl _ _).alloc (Nat.le_refl _) _⟩
set_option maxHeartbeats 4000000 in
theorem row_6 (w : World) : Calls Tryz.prog 39 #[.int .u8 6] w fun e w' => e = .returned (rowV (rowF 6)) ∧ Below w.heap.size w w' := by
  go_enter Tryz.func39, Tryz.ntmps39
  go_wp2_with fail
  exact bodyPost_ret (v := .tuple #[.agg #[.int .u8 64, .int .i64 1, .bool false, .func (.func 80) #[] #[]], .bool true]) (by simp [results, Tryz.results39, go_sem]) rfl ⟨rfl, (Below.refl _ _).alloc (Nat.le_refl _) _⟩
set_option maxHeartbeats 4000000 in
theorem row_7 (w : World) : Calls Tryz.prog 39 #[.int .u8 7] w fun e w' => e = .returned (rowV (rowF 7)) ∧ Below w.heap.size w w' := by
  go_enter Tryz.func39, Tryz.ntmps39
  go_wp2_with fail
  exact bodyPost_ret (v := .tuple #[.agg #[.int .u8 192, .int .i64 1, .bool false, .func (.func 81) #[] #[]], .bool true]) (by simp [results, Tryz.results39, go_sem]) rfl ⟨rfl, (Below.refl _ _).alloc (Nat.le_refl _) _⟩
set_option maxHeartbeats 4000000 in
theorem row_8 (w : World) : Calls Tryz.prog 39 #[.int .u8 8] w fun e w' => e = .returned (rowV (rowF 8)) ∧ Below w.heap.size w w' := by
  go_enter Tryz.func39, Tryz.ntmps39
  go_wp2_with fail
  exact bodyPost_ret (v := .tuple #[.agg #[.int .u8 192, .int .i64 2, .bool false, .func (.func 82) #[] #[]], .bool true]) (by simp [results, Tryz.results39, go_sem]) rfl ⟨rfl, (Below.refl _ _).alloc (Nat.le_refl _) _⟩
set_option maxHeartbeats 4000000 in
theorem row_9 (w : World) : Calls Tryz.prog 39 #[.int .u8 9] w fun e w' => e = .returned (rowV (rowF 9)) ∧ Below w.heap.size w w' := by
  go_enter Tryz.func39, Tryz.ntmps39
  go_wp2_with fail
  exact bodyPost_ret (v := .tuple #[.agg #[.int .u8 128, .int .i64 2, .bool true, .func (.func 84) #[] #[]], .bool true]) (by simp [results, Tryz.results39, go_sem]) rfl ⟨rfl, (Below.refl _ _).alloc (Nat.le_refl _) _⟩
set_option maxHeartbeats 4000000 in
theorem row_10 (w : World) : Calls Tryz.prog 39 #[.int .u8 10] w fun e w' => e = .returned (rowV (rowF 10)) ∧ Below w.heap.size w w' := by
  go_enter Tryz.func39, Tryz.ntmps39
  go_wp2_with fail
  exact bodyPost_ret (v := .tuple #[.agg #[.int .u8 128, .int .i64 2, .bool true, .func (.func 85) #[] #[]], .bool true]) (by simp [results, Tryz.results39, go_sem]) rfl ⟨rfl, (Below.refl _ _).alloc (Nat.le_refl _) _⟩
set_option maxHeartbeats 4000000 in
theorem row_16 (w : World) : Calls Tryz.prog 39 #[.int .u8 16] w fun e w' => e = .returned (rowV (rowF 16)) ∧ Below w.heap.size w w' := by
  go_enter Tryz.func39, Tryz.ntmps39
  go_wp2_with fail
  exact bodyPost_ret (v := .tuple #[.agg #[.int .u8 192, .int .i64 2, .bool false, .func (.func 86) #[] #[]], .bool true]) (by simp [results, Tryz.results39, go_sem]) rfl ⟨rfl, (Below.refl _ _).alloc (Nat.le_refl _) _⟩
set_option maxHeartbeats 4000000 in
theorem row_32 (w : World) : Calls Tryz.prog 39 #[.int .u8 32] w fun e w' => e = .returned (rowV (rowF 32)) ∧ Below w.heap.size w w' := by
  go_enter Tryz.func39, Tryz.ntmps39
  go_wp2_with fail
  exact bodyPost_ret (v := .tuple #[.agg #[.int .u8 192, .int .i64 2, .bool false, .func (.func 88) #[] #[]], .bool true]) (by simp [results, Tryz.results39, go_sem]) rfl ⟨rfl, (Below.refl _ _).alloc (Nat.le_refl _) _⟩
set_option maxHeartbeats 8000000 in
theorem row_none (t : UInt8) (w : World) (h : rowF t.toNat = none) : Calls Tryz.prog 39 #[.int .u8 t.toNat] w fun e w' => e = .returned (rowV none) ∧ Below w.heap.size w w' := by
  have q1 : ((t.toNat : Int) == 1) = false := beq_eq_false_iff_ne.2 (fun e => by rw [show t.toNat = 1 by omega] at h; cases h)
  have q2 : ((t.toNat : Int) == 2) = false := beq_eq_false_iff_ne.2 (fun e => by rw [show t.toNat = 2 by omega] at h; cases h)
  have q3 : ((t.toNat : Int) == 3) = false := beq_eq_false_iff_ne.2 (fun e => by rw [show t.toNat = 3 by omega] at h; cases h)
  have q4 : ((t.toNat : Int) == 4) = false := beq_eq_false_iff_ne.2 (fun e => by rw [show t.toNat = 4 by omega] at h; cases h)
  have q5 : ((t.toNat : Int) == 5) = false := beq_eq_false_iff_ne.2 (fun e => by rw [show t.toNat = 5 by omega] at h; cases h)
  have q6 : ((t.toNat : Int) == 6) = false := beq_eq_false_iff_ne.2 (fun e => by rw [show t.toNat = 6 by omega] at h; cases h)
  have q7 : ((t.toNat : Int) == 7) = false := beq_eq_false_iff_ne.2 (fun e => by rw [show t.toNat = 7 by omega] at h; cases h)
  have q8 : ((t.toNat : Int) == 8) = false := beq_eq_false_iff_ne.2 (fun e => by rw [show t.toNat = 8 by omega] at h; cases h)
  have q9 : ((t.toNat : Int) == 9) = false := beq_eq_false_iff_ne.2 (fun e => by rw [show t.toNat = 9 by omega] at h; cases h)
  have q10 : ((t.toNat : Int) == 10) = false := beq_eq_false_iff_ne.2 (fun e => by rw [show t.toNat = 10 by omega] at h; cases h)
  have q16 : ((t.toNat : Int) == 16) = false := beq_eq_false_iff_ne.2 (fun e => by rw [show t.toNat = 16 by omega] at h; cases h)
  have q32 : ((t.toNat : Int) == 32) = false := beq_eq_false_iff_ne.2 (fun e => by rw [show t.toNat = 32 by omega] at h; cases h)
  clear h
  generalize t.toNat = n at *
  go_enter Tryz.func39, Tryz.ntmps39
  go_wp2_with fail
  exact bodyPost_ret (v := .tuple #[.agg #[.int .u8 0, .int .i64 0, .bool false, .nilFunc], .bool false]) (by simp [results, Tryz.results39, go_sem]) rfl ⟨rfl, (Below.refl _ _).alloc (Nat.le_refl _) _⟩
theorem row_any (t : UInt8) (w : World) : Calls Tryz.prog 39 #[.int .u8 t.toNat] w fun e w' => e = .returned (rowV (rowF t.toNat)) ∧ Below w.heap.size w w' := by
  by_cases h1 : t.toNat = 1
  · rw [h1]; exact row_1 w
  by_cases h2 : t.toNat = 2
  · rw [h2]; exact row_2 w
  by_cases h3 : t.toNat = 3
  · rw [h3]; exact row_3 w
  by_cases h4 : t.toNat = 4
  · rw [h4]; exact row_4 w
  by_cases h5 : t.toNat = 5
  · rw [h5]; exact row_5 w
  by_cases h6 : t.toNat = 6
  · rw [h6]; exact row_6 w
  by_cases h7 : t.toNat = 7
  · rw [h7]; exact row_7 w
  by_cases h8 : t.toNat = 8
  · rw [h8]; exact row_8 w
  by_cases h9 : t.toNat = 9
  · rw [h9]; exact row_9 w
  by_cases h10 : t.toNat = 10
  · rw [h10]; exact row_10 w
  by_cases h16 : t.toNat = 16
  · rw [h16]; exact row_16 w
  by_cases h32 : t.toNat = 32
  · rw [h32]; exact row_32 w
  have h : rowF t.toNat = none := by
    unfold rowF
    rw [if_neg h1, if_neg h2, if_neg h3, if_neg h4, if_neg h5, if_neg h6, if_neg h7, if_neg h8, if_neg h9, if_neg h10, if_neg h16, if_neg h32]
  rw [h]
  exact row_none t w h
end Go.Proofs.YtkcojblflebomaaGreat
