/-
  Contracts of the small functions of nlri and of the references on families. Conditions: a family is one of five.
-/
import Derived.Test.YtocbacpbckejdaaReachB
import Derived.Test.YtocbacpbckejdaaWireV
import Derived.Test.YtocbacpbckejdaaPrimB
import Derived.Test.YtocbacpbckejdaaOpenAny
import Derived.Deep.RegionHeld3
set_option linter.unusedVariables false
set_option linter.unusedSimpArgs false
namespace Go.Proofs.Ytocbacpbckejdaa
open Go.RowKit

def labB (f : Int) : Bool := decide (3 ≤ f)
def apB (f : Int) : Bool := decide (4 ≤ f)
def aheadV (f : Int) : Int := if f = 4 then 88 else if f = 5 then 88 else if f = 3 then 24 else 0

theorem nlab_any (f : Int) (w : World) (h1 : 1 ≤ f) (h2 : f ≤ 5) : Calls Try.prog 56 #[.int .i64 f] w fun e w' => e = .returned (.bool (labB f)) ∧ w' = w := by
  rcases fam_five h1 h2 with rfl | rfl | rfl | rfl | rfl
  all_goals
    go_enter Try.func56, Try.ntmps56
    go_wp2
    go_ret
    exact ⟨rfl, rfl⟩
theorem nap_any (f : Int) (w : World) (h1 : 1 ≤ f) (h2 : f ≤ 5) : Calls Try.prog 57 #[.int .i64 f] w fun e w' => e = .returned (.bool (apB f)) ∧ w' = w := by
  rcases fam_five h1 h2 with rfl | rfl | rfl | rfl | rfl
  all_goals
    go_enter Try.func57, Try.ntmps57
    go_wp2
    go_ret
    exact ⟨rfl, rfl⟩
theorem rap_any (f : Int) (w : World) (h1 : 1 ≤ f) (h2 : f ≤ 5) : Calls Try.prog 69 #[.int .i64 f] w fun e w' => e = .returned (.bool (apB f)) ∧ w' = w := by
  rcases fam_five h1 h2 with rfl | rfl | rfl | rfl | rfl
  all_goals
    go_enter Try.func69, Try.ntmps69
    go_wp2
    go_ret
    exact ⟨rfl, rfl⟩
theorem rlab_any (f : Int) (w : World) (h1 : 1 ≤ f) (h2 : f ≤ 5) : Calls Try.prog 66 #[.int .i64 f] w fun e w' => e = .returned (.bool (labB f)) ∧ w' = w := by
  rcases fam_five h1 h2 with rfl | rfl | rfl | rfl | rfl
  all_goals
    go_enter Try.func66, Try.ntmps66
    go_wp2_with (first | (refine (rap_any _ _ (by omega) (by omega)).mono ?_; rintro e w1 ⟨rfl, rfl⟩))
    go_ret
    exact ⟨rfl, rfl⟩
theorem nahead_any (f : Int) (w : World) (h1 : 1 ≤ f) (h2 : f ≤ 5) : Calls Try.prog 55 #[.int .i64 f] w fun e w' => e = .returned (.int .i64 (aheadV f)) ∧ w' = w := by
  rcases fam_five h1 h2 with rfl | rfl | rfl | rfl | rfl
  all_goals
    go_enter Try.func55, Try.ntmps55
    go_wp2_with fail
    refine (nlab_any _ _ (by omega) (by omega)).mono ?_
    rintro e w1 ⟨rfl, rfl⟩
    first | rw [show labB 1 = false from rfl] | rw [show labB 2 = false from rfl] | rw [show labB 3 = true from rfl] | rw [show labB 4 = true from rfl] | rw [show labB 5 = true from rfl]
    go_wp2_with fail
    refine (nap_any _ _ (by omega) (by omega)).mono ?_
    rintro e w1 ⟨rfl, rfl⟩
    first | rw [show apB 1 = false from rfl] | rw [show apB 2 = false from rfl] | rw [show apB 3 = false from rfl] | rw [show apB 4 = true from rfl] | rw [show apB 5 = true from rfl]
    go_wp2_with fail
    go_ret
    exact ⟨rfl, rfl⟩
theorem rahead_any (f : Int) (w : World) (h1 : 1 ≤ f) (h2 : f ≤ 5) : Calls Try.prog 68 #[.int .i64 f] w fun e w' => e = .returned (.int .i64 (aheadV f)) ∧ w' = w := by
  rcases fam_five h1 h2 with rfl | rfl | rfl | rfl | rfl
  all_goals
    go_enter Try.func68, Try.ntmps68
    go_wp2_with fail
    refine (rlab_any _ _ (by omega) (by omega)).mono ?_
    rintro e w1 ⟨rfl, rfl⟩
    first | rw [show labB 1 = false from rfl] | rw [show labB 2 = false from rfl] | rw [show labB 3 = true from rfl] | rw [show labB 4 = true from rfl] | rw [show labB 5 = true from rfl]
    go_wp2_with fail
    refine (rap_any _ _ (by omega) (by omega)).mono ?_
    rintro e w1 ⟨rfl, rfl⟩
    first | rw [show apB 1 = false from rfl] | rw [show apB 2 = false from rfl] | rw [show apB 3 = false from rfl] | rw [show apB 4 = true from rfl] | rw [show apB 5 = true from rfl]
    go_wp2_with fail
    go_ret
    exact ⟨rfl, rfl⟩

theorem whole_any (n : Nat) (w : World) (h : n ≤ 1000) : Calls Try.prog 58 #[.int .i64 n] w fun e w' => e = .returned (.int .i64 (((n + 7) / 8 : Nat) : Int)) ∧ w' = w := by
  have e1 : ((n : Int) + 7) / 8 = (((n + 7) / 8 : Nat) : Int) := by omega
  go_enter Try.func58, Try.ntmps58
  go_wp2
  go_ret
  exact ⟨ret_int (by omega), rfl⟩

theorem rsize_any (f : Int) (w : World) : Calls Try.prog 47 #[.int .i64 f] w fun e w' => e = .returned (.int .i64 (famSize f)) ∧ w' = w := by
  by_cases h1 : f = 1
  · subst h1
    go_enter Try.func47, Try.ntmps47
    go_wp2
    go_ret
    exact ⟨rfl, rfl⟩
  by_cases h2 : f = 2
  · subst h2
    go_enter Try.func47, Try.ntmps47
    go_wp2
    go_ret
    exact ⟨rfl, rfl⟩
  by_cases h3 : f = 3
  · subst h3
    go_enter Try.func47, Try.ntmps47
    go_wp2
    go_ret
    exact ⟨rfl, rfl⟩
  by_cases h4 : f = 4
  · subst h4
    go_enter Try.func47, Try.ntmps47
    go_wp2
    go_ret
    exact ⟨rfl, rfl⟩
  by_cases h5 : f = 5
  · subst h5
    go_enter Try.func47, Try.ntmps47
    go_wp2
    go_ret
    exact ⟨rfl, rfl⟩
  have e1 : (f == 1) = false := by rw [beq_eq_false_iff_ne]; exact h1
  have e2 : (f == 2) = false := by rw [beq_eq_false_iff_ne]; exact h2
  have e3 : (f == 3) = false := by rw [beq_eq_false_iff_ne]; exact h3
  have e4 : (f == 4) = false := by rw [beq_eq_false_iff_ne]; exact h4
  have e5 : (f == 5) = false := by rw [beq_eq_false_iff_ne]; exact h5
  have hr : Hid (famSize f = 0) := by
    show _ = _
    unfold famSize
    rw [if_neg (by omega), if_neg (by omega)]
  clear h1 h2 h3 h4 h5
  go_enter Try.func47, Try.ntmps47
  go_wp2
  go_ret
  exact ⟨ret_int hr.out.symm, rfl⟩

theorem famSize_five {f : Int} (h : famSize f ≠ 0) : 1 ≤ f ∧ f ≤ 5 := by
  unfold famSize at h
  split at h
  · omega
  · split at h
    · omega
    · exact absurd rfl h

end Go.Proofs.Ytocbacpbckejdaa
