/-
  Contracts of msg.Least, Size and of heraldref12.Least, Size. Conditions: none.
-/
import Derived.Test.YtpipeilmolmfpaaReachB
set_option linter.unusedVariables false
set_option linter.unusedSimpArgs false
namespace Go.Proofs.Ytpipeilmolmfpaa
open Go.RowKit

def leastV (k : Int) : Int := if k = 1 then 10 else if k = 2 then 4 else if k = 3 then 2 else if k = 4 then 0 else 4
theorem leastV_in (k : Int) : 0 ≤ leastV k ∧ leastV k ≤ 10 := by
  unfold leastV
  repeat' split
  all_goals omega

theorem least_at (k : Int) (h1 : 1 ≤ k) (h2 : k ≤ 5) (w : World) :
    (Instr.index 48 (.agg #[.int .i64 (-1), .int .i64 10, .int .i64 4, .int .i64 2, .int .i64 0, .int .i64 4]) (.int .i64 k)).run Try.prog w = .ok (.int .i64 (leastV k)) w := by
  rcases fam_five h1 h2 with rfl | rfl | rfl | rfl | rfl <;> kernel_rfl

theorem least_in (k : Int) (w : World) (h1 : 1 ≤ k) (h2 : k ≤ 5) :
    Calls Try.prog 10 #[.int .i64 k] w fun e w' => e = .returned (.tuple #[.int .i64 (leastV k), .bool true]) ∧ Below w.heap.size w w' := by
  have hidx := least_at k h1 h2
  go_enter Try.func10, Try.ntmps10
  go_wp2
  go_ret2
  exact ⟨rfl, by go_grown⟩
theorem least_out (k : Int) (w : World) (h : k < 1 ∨ 5 < k) :
    Calls Try.prog 10 #[.int .i64 k] w fun e w' => e = .returned (.tuple #[.int .i64 0, .bool false]) ∧ w' = w := by
  by_cases h1 : k < 1
  · go_enter Try.func10, Try.ntmps10
    go_wp2
    go_ret2
    exact ⟨rfl, rfl⟩
  · have h2 : 5 < k := by omega
    go_enter Try.func10, Try.ntmps10
    go_wp2
    go_ret2
    exact ⟨rfl, rfl⟩
theorem rleast_in (k : Int) (w : World) (h1 : 1 ≤ k) (h2 : k ≤ 5) :
    Calls Try.prog 11 #[.int .i64 k] w fun e w' => e = .returned (.tuple #[.int .i64 (leastV k), .bool true]) ∧ w' = w := by
  rcases fam_five h1 h2 with rfl | rfl | rfl | rfl | rfl
  all_goals
    go_enter Try.func11, Try.ntmps11
    go_wp2
    go_ret2
    exact ⟨rfl, rfl⟩
theorem rleast_out (k : Int) (w : World) (h : k < 1 ∨ 5 < k) :
    Calls Try.prog 11 #[.int .i64 k] w fun e w' => e = .returned (.tuple #[.int .i64 0, .bool false]) ∧ w' = w := by
  have e1 : (k == 1) = false := by rw [beq_eq_false_iff_ne]; omega
  have e2 : (k == 2) = false := by rw [beq_eq_false_iff_ne]; omega
  have e3 : (k == 3) = false := by rw [beq_eq_false_iff_ne]; omega
  have e4 : (k == 4) = false := by rw [beq_eq_false_iff_ne]; omega
  have e5 : (k == 5) = false := by rw [beq_eq_false_iff_ne]; omega
  go_enter Try.func11, Try.ntmps11
  go_wp2
  go_ret2
  exact ⟨rfl, rfl⟩

/-- a verdict -/
def verd (a c s : Int) : Value := .agg #[.int .i64 a, .int .u8 c, .int .u8 s]
/-- what is said of a body's size -/
def sizeN (k b : Int) : Int := if k < 1 ∨ 5 < k then 3 else if b < leastV k ∨ 4077 < b ∨ (b ≠ leastV k ∧ (k = 4 ∨ k = 5)) then 2 else 0
def sizeR (k b : Int) : Value := if sizeN k b = 0 then verd 0 0 0 else verd 3 1 (sizeN k b)

theorem size1_any (n : Int) (w : World) :
    Calls Try.prog 26 #[.int .u8 n] w fun e w' => e = .returned (.agg #[.int .i64 3, .int .u8 1, .int .u8 n]) ∧ Below w.heap.size w w' := by
  go_enter Try.func26, Try.ntmps26
  go_wp2_with fail
  refine bodyPost_ret (v := .agg #[.int .i64 3, .int .u8 1, .int .u8 n]) (by simp [results, Try.results26, go_sem]) rfl ⟨rfl, ?_⟩
  go_grown
theorem sizeR_bad {k b : Int} (h : sizeN k b = 2) : sizeR k b = verd 3 1 2 := by unfold sizeR; rw [h]; rfl
theorem sizeR_fine {k b : Int} (h : sizeN k b = 0) : sizeR k b = verd 0 0 0 := by unfold sizeR; rw [h]; rfl

set_option maxHeartbeats 2000000 in
theorem size_any (k b : Int) (w : World) :
    Calls Try.prog 12 #[.int .i64 k, .int .i64 b] w fun e w' => e = .returned (sizeR k b) ∧ Below w.heap.size w w' := by
  by_cases hk : k < 1 ∨ 5 < k
  · have hr : Hid (sizeR k b = verd 3 1 3) := by show _ = _; unfold sizeR sizeN; rw [if_pos hk]; rfl
    go_enter Try.func12, Try.ntmps12
    go_wp2_with fail
    refine (least_out k _ hk).mono ?_
    rintro e w1 ⟨rfl, rfl⟩
    go_wp2_with fail
    refine (size1_any _ _).mono ?_
    rintro e w2 ⟨rfl, hb2⟩
    obtain ⟨hc2, hf2⟩ := bcell hb2
    have hz2 := hb2.size
    simp only [World.size_alloc] at hz2
    have HB2 := Lib.hid hb2
    clear hb2
    go_wp2_with fail
    refine bodyPost_ret (v := verd 3 1 3) (by simp [verd, results, Try.results12, go_sem, hc2, hf2, hz2]) rfl ⟨by rw [hr.out], ?_⟩
    have hb0 : Below w.heap.size w w2 := ((Below.refl _ _).alloc (Nat.le_refl _) _).trans (HB2.out.mono (by simp))
    go_grown
  · have k1 : 1 ≤ k := by omega
    have k5 : k ≤ 5 := by omega
    have hL := leastV_in k
    have hN : sizeN k b = if b < leastV k ∨ 4077 < b ∨ (b ≠ leastV k ∧ (k = 4 ∨ k = 5)) then 2 else 0 := by unfold sizeN; rw [if_neg hk]
    have hin := fun w => least_in k w k1 k5
    have HI := Lib.hid hin
    clear hk hin
    generalize leastV k = L at hL hN HI
    by_cases c1 : b < L
    · have hr : Hid (sizeR k b = verd 3 1 2) := sizeR_bad (by rw [hN, if_pos (by omega)])
      clear hN
      go_enter Try.func12, Try.ntmps12
      go_wp2_with fail
      refine (HI.out _).mono ?_
      rintro e w1 ⟨rfl, hb⟩
      obtain ⟨hc, hf⟩ := bcell hb
      have hz := hb.size
      simp only [World.size_alloc] at hz
      have hb0 : Below w.heap.size w w1 := ((Below.refl _ _).alloc (Nat.le_refl _) _).trans (hb.mono (by simp))
      have HB := Lib.hid hb0
      clear hb hb0
      go_wp2_with fail
      refine (size1_any _ _).mono ?_
      rintro e w2 ⟨rfl, hb2⟩
      have hc3 : ∀ o, w2.cell? ⟨w.heap.size, o, none⟩ = w1.cell? ⟨w.heap.size, o, none⟩ := fun o => hb2.cell (p := ⟨w.heap.size, o, none⟩) (by show w.heap.size < _; omega)
      have hf3 : ∀ o, w2.frozen? ⟨w.heap.size, o, none⟩ = w1.frozen? ⟨w.heap.size, o, none⟩ := fun o => hb2.frozen (p := ⟨w.heap.size, o, none⟩) (by show w.heap.size < _; omega)
      have HB2 := Lib.hid (HB.out.trans (hb2.mono (by omega)))
      clear hb2
      go_wp2_with fail
      refine bodyPost_ret (v := verd 3 1 2) (by simp [verd, results, Try.results12, go_sem, hc, hf, hz, hc3, hf3]) rfl ⟨by rw [hr.out], ?_⟩
      have hb0 := HB2.out
      go_grown
    by_cases c2 : 4077 < b
    · have hr : Hid (sizeR k b = verd 3 1 2) := sizeR_bad (by rw [hN, if_pos (by omega)])
      clear hN
      go_enter Try.func12, Try.ntmps12
      go_wp2_with fail
      refine (HI.out _).mono ?_
      rintro e w1 ⟨rfl, hb⟩
      obtain ⟨hc, hf⟩ := bcell hb
      have hz := hb.size
      simp only [World.size_alloc] at hz
      have hb0 : Below w.heap.size w w1 := ((Below.refl _ _).alloc (Nat.le_refl _) _).trans (hb.mono (by simp))
      have HB := Lib.hid hb0
      clear hb hb0
      go_wp2_with fail
      refine (size1_any _ _).mono ?_
      rintro e w2 ⟨rfl, hb2⟩
      have hc3 : ∀ o, w2.cell? ⟨w.heap.size, o, none⟩ = w1.cell? ⟨w.heap.size, o, none⟩ := fun o => hb2.cell (p := ⟨w.heap.size, o, none⟩) (by show w.heap.size < _; omega)
      have hf3 : ∀ o, w2.frozen? ⟨w.heap.size, o, none⟩ = w1.frozen? ⟨w.heap.size, o, none⟩ := fun o => hb2.frozen (p := ⟨w.heap.size, o, none⟩) (by show w.heap.size < _; omega)
      have HB2 := Lib.hid (HB.out.trans (hb2.mono (by omega)))
      clear hb2
      go_wp2_with fail
      refine bodyPost_ret (v := verd 3 1 2) (by simp [verd, results, Try.results12, go_sem, hc, hf, hz, hc3, hf3]) rfl ⟨by rw [hr.out], ?_⟩
      have hb0 := HB2.out
      go_grown
    by_cases c3 : b = L
    · have hr : Hid (sizeR k b = verd 0 0 0) := sizeR_fine (by rw [hN, if_neg (by omega)])
      clear hN
      have e3 : (b == L) = true := by rw [beq_iff_eq]; exact c3
      have e3' : (b != L) = false := by rw [bne, e3]; rfl
      clear c3
      go_enter Try.func12, Try.ntmps12
      go_wp2_with fail
      refine (HI.out _).mono ?_
      rintro e w1 ⟨rfl, hb⟩
      obtain ⟨hc, hf⟩ := bcell hb
      have hz := hb.size
      simp only [World.size_alloc] at hz
      have hb0 : Below w.heap.size w w1 := ((Below.refl _ _).alloc (Nat.le_refl _) _).trans (hb.mono (by simp))
      have HB := Lib.hid hb0
      clear hb hb0
      go_wp2_with fail
      refine bodyPost_ret (v := verd 0 0 0) (by simp [verd, results, Try.results12, go_sem, hc, hf, hz]) rfl ⟨by rw [hr.out], ?_⟩
      have hb0 := HB.out
      go_grown
    have e3 : (b == L) = false := by rw [beq_eq_false_iff_ne]; exact c3
    have e3' : (b != L) = true := by rw [bne, e3]; rfl
    by_cases c4 : k = 4
    · have hr : Hid (sizeR k b = verd 3 1 2) := sizeR_bad (by rw [hN, if_pos (by omega)])
      clear hN
      have e4 : (k == 4) = true := by rw [beq_iff_eq]; exact c4
      clear c4 c3
      go_enter Try.func12, Try.ntmps12
      go_wp2_with fail
      refine (HI.out _).mono ?_
      rintro e w1 ⟨rfl, hb⟩
      obtain ⟨hc, hf⟩ := bcell hb
      have hz := hb.size
      simp only [World.size_alloc] at hz
      have hb0 : Below w.heap.size w w1 := ((Below.refl _ _).alloc (Nat.le_refl _) _).trans (hb.mono (by simp))
      have HB := Lib.hid hb0
      clear hb hb0
      go_wp2_with fail
      refine (size1_any _ _).mono ?_
      rintro e w2 ⟨rfl, hb2⟩
      have hc3 : ∀ o, w2.cell? ⟨w.heap.size, o, none⟩ = w1.cell? ⟨w.heap.size, o, none⟩ := fun o => hb2.cell (p := ⟨w.heap.size, o, none⟩) (by show w.heap.size < _; omega)
      have hf3 : ∀ o, w2.frozen? ⟨w.heap.size, o, none⟩ = w1.frozen? ⟨w.heap.size, o, none⟩ := fun o => hb2.frozen (p := ⟨w.heap.size, o, none⟩) (by show w.heap.size < _; omega)
      have HB2 := Lib.hid (HB.out.trans (hb2.mono (by omega)))
      clear hb2
      go_wp2_with fail
      refine bodyPost_ret (v := verd 3 1 2) (by simp [verd, results, Try.results12, go_sem, hc, hf, hz, hc3, hf3]) rfl ⟨by rw [hr.out], ?_⟩
      have hb0 := HB2.out
      go_grown
    have e4 : (k == 4) = false := by rw [beq_eq_false_iff_ne]; exact c4
    by_cases c5 : k = 5
    · have hr : Hid (sizeR k b = verd 3 1 2) := sizeR_bad (by rw [hN, if_pos (by omega)])
      clear hN
      have e5 : (k == 5) = true := by rw [beq_iff_eq]; exact c5
      clear c5 c4 c3
      go_enter Try.func12, Try.ntmps12
      go_wp2_with fail
      refine (HI.out _).mono ?_
      rintro e w1 ⟨rfl, hb⟩
      obtain ⟨hc, hf⟩ := bcell hb
      have hz := hb.size
      simp only [World.size_alloc] at hz
      have hb0 : Below w.heap.size w w1 := ((Below.refl _ _).alloc (Nat.le_refl _) _).trans (hb.mono (by simp))
      have HB := Lib.hid hb0
      clear hb hb0
      go_wp2_with fail
      refine (size1_any _ _).mono ?_
      rintro e w2 ⟨rfl, hb2⟩
      have hc3 : ∀ o, w2.cell? ⟨w.heap.size, o, none⟩ = w1.cell? ⟨w.heap.size, o, none⟩ := fun o => hb2.cell (p := ⟨w.heap.size, o, none⟩) (by show w.heap.size < _; omega)
      have hf3 : ∀ o, w2.frozen? ⟨w.heap.size, o, none⟩ = w1.frozen? ⟨w.heap.size, o, none⟩ := fun o => hb2.frozen (p := ⟨w.heap.size, o, none⟩) (by show w.heap.size < _; omega)
      have HB2 := Lib.hid (HB.out.trans (hb2.mono (by omega)))
      clear hb2
      go_wp2_with fail
      refine bodyPost_ret (v := verd 3 1 2) (by simp [verd, results, Try.results12, go_sem, hc, hf, hz, hc3, hf3]) rfl ⟨by rw [hr.out], ?_⟩
      have hb0 := HB2.out
      go_grown
    have e5 : (k == 5) = false := by rw [beq_eq_false_iff_ne]; exact c5
    · have hr : Hid (sizeR k b = verd 0 0 0) := sizeR_fine (by rw [hN, if_neg (by omega)])
      clear hN
      clear c5 c4 c3
      go_enter Try.func12, Try.ntmps12
      go_wp2_with fail
      refine (HI.out _).mono ?_
      rintro e w1 ⟨rfl, hb⟩
      obtain ⟨hc, hf⟩ := bcell hb
      have hz := hb.size
      simp only [World.size_alloc] at hz
      have hb0 : Below w.heap.size w w1 := ((Below.refl _ _).alloc (Nat.le_refl _) _).trans (hb.mono (by simp))
      have HB := Lib.hid hb0
      clear hb hb0
      go_wp2_with fail
      refine bodyPost_ret (v := verd 0 0 0) (by simp [verd, results, Try.results12, go_sem, hc, hf, hz]) rfl ⟨by rw [hr.out], ?_⟩
      have hb0 := HB.out
      go_grown

set_option maxHeartbeats 2000000 in
theorem rsize_any (k b : Int) (w : World) :
    Calls Try.prog 13 #[.int .i64 k, .int .i64 b] w fun e w' => e = .returned (sizeR k b) ∧ Below w.heap.size w w' := by
  by_cases hk : k < 1 ∨ 5 < k
  · have hr : Hid (sizeR k b = verd 3 1 3) := by show _ = _; unfold sizeR sizeN; rw [if_pos hk]; rfl
    go_enter Try.func13, Try.ntmps13
    go_wp2_with fail
    refine (rleast_out k _ hk).mono ?_
    rintro e w1 ⟨rfl, rfl⟩
    go_wp2_with fail
    refine bodyPost_ret (v := verd 3 1 3) (by simp [verd, results, Try.results13, go_sem]) rfl ⟨by rw [hr.out], ?_⟩
    skip
    go_grown
  · have k1 : 1 ≤ k := by omega
    have k5 : k ≤ 5 := by omega
    have hL := leastV_in k
    have hN : sizeN k b = if b < leastV k ∨ 4077 < b ∨ (b ≠ leastV k ∧ (k = 4 ∨ k = 5)) then 2 else 0 := by unfold sizeN; rw [if_neg hk]
    have hin := fun w => rleast_in k w k1 k5
    have HI := Lib.hid hin
    clear hk hin
    generalize leastV k = L at hL hN HI
    by_cases c1 : b < L
    · have hr : Hid (sizeR k b = verd 3 1 2) := sizeR_bad (by rw [hN, if_pos (by omega)])
      clear hN
      go_enter Try.func13, Try.ntmps13
      go_wp2_with fail
      refine (HI.out _).mono ?_
      rintro e w1 ⟨rfl, rfl⟩
      go_wp2_with fail
      all_goals
        refine bodyPost_ret (v := verd 3 1 2) (by simp [verd, results, Try.results13, go_sem]) rfl ⟨by rw [hr.out], ?_⟩
        go_grown
    by_cases c2 : 4077 < b
    · have hr : Hid (sizeR k b = verd 3 1 2) := sizeR_bad (by rw [hN, if_pos (by omega)])
      clear hN
      go_enter Try.func13, Try.ntmps13
      go_wp2_with fail
      refine (HI.out _).mono ?_
      rintro e w1 ⟨rfl, rfl⟩
      go_wp2_with fail
      all_goals
        refine bodyPost_ret (v := verd 3 1 2) (by simp [verd, results, Try.results13, go_sem]) rfl ⟨by rw [hr.out], ?_⟩
        go_grown
    by_cases c3 : b = L
    · have hr : Hid (sizeR k b = verd 0 0 0) := sizeR_fine (by rw [hN, if_neg (by omega)])
      clear hN
      have e3 : (b == L) = true := by rw [beq_iff_eq]; exact c3
      have e3' : (b != L) = false := by rw [bne, e3]; rfl
      clear c3
      go_enter Try.func13, Try.ntmps13
      go_wp2_with fail
      refine (HI.out _).mono ?_
      rintro e w1 ⟨rfl, rfl⟩
      go_wp2_with fail
      all_goals
        refine bodyPost_ret (v := verd 0 0 0) (by simp [verd, results, Try.results13, go_sem]) rfl ⟨by rw [hr.out], ?_⟩
        go_grown
    have e3 : (b == L) = false := by rw [beq_eq_false_iff_ne]; exact c3
    have e3' : (b != L) = true := by rw [bne, e3]; rfl
    by_cases c4 : k = 4
    · have hr : Hid (sizeR k b = verd 3 1 2) := sizeR_bad (by rw [hN, if_pos (by omega)])
      clear hN
      have e4 : (k == 4) = true := by rw [beq_iff_eq]; exact c4
      clear c4 c3
      go_enter Try.func13, Try.ntmps13
      go_wp2_with fail
      refine (HI.out _).mono ?_
      rintro e w1 ⟨rfl, rfl⟩
      go_wp2_with fail
      all_goals
        refine bodyPost_ret (v := verd 3 1 2) (by simp [verd, results, Try.results13, go_sem]) rfl ⟨by rw [hr.out], ?_⟩
        go_grown
    have e4 : (k == 4) = false := by rw [beq_eq_false_iff_ne]; exact c4
    by_cases c5 : k = 5
    · have hr : Hid (sizeR k b = verd 3 1 2) := sizeR_bad (by rw [hN, if_pos (by omega)])
      clear hN
      have e5 : (k == 5) = true := by rw [beq_iff_eq]; exact c5
      clear c5 c4 c3
      go_enter Try.func13, Try.ntmps13
      go_wp2_with fail
      refine (HI.out _).mono ?_
      rintro e w1 ⟨rfl, rfl⟩
      go_wp2_with fail
      all_goals
        refine bodyPost_ret (v := verd 3 1 2) (by simp [verd, results, Try.results13, go_sem]) rfl ⟨by rw [hr.out], ?_⟩
        go_grown
    have e5 : (k == 5) = false := by rw [beq_eq_false_iff_ne]; exact c5
    · have hr : Hid (sizeR k b = verd 0 0 0) := sizeR_fine (by rw [hN, if_neg (by omega)])
      clear hN
      clear c5 c4 c3
      go_enter Try.func13, Try.ntmps13
      go_wp2_with fail
      refine (HI.out _).mono ?_
      rintro e w1 ⟨rfl, rfl⟩
      go_wp2_with fail
      all_goals
        refine bodyPost_ret (v := verd 0 0 0) (by simp [verd, results, Try.results13, go_sem]) rfl ⟨by rw [hr.out], ?_⟩
        go_grown

end Go.Proofs.Ytpipeilmolmfpaa
