/-
  Contracts of msg.Refresh, ReadRefresh and of heraldref12.Refresh, ReadRefresh. Conditions: sizes.
-/
import Derived.Test.YtpipeilmolmfpaaMsgC
import Derived.Test.YtpipeilmolmfpaaReachB
import Derived.Test.YtpipeilmolmfpaaWireC
set_option linter.unusedVariables false
set_option linter.unusedSimpArgs false
namespace Go.Proofs.Ytpipeilmolmfpaa
open Go.RowKit

/-- the body of a request -/
def refS (f : Int) : ByteArray := ⟨#[0, UInt8.ofNat (afiV f).toNat, 0, UInt8.ofNat (safiV f).toNat]⟩

set_option maxRecDepth 100000 in
theorem refresh_in (f : Int) (w : World) (h1 : 1 ≤ f) (h2 : f ≤ 5) :
    Calls Try.prog 21 #[.int .i64 f] w fun e w' => e = .returned (.tuple #[.string (refS f), .int .i64 0]) ∧ Below w.heap.size w w' := by
  rcases fam_five h1 h2 with rfl | rfl | rfl | rfl | rfl
  all_goals
    clear h1 h2
    go_enter Try.func21, Try.ntmps21
    go_wp2_with fail
    refine (afi_in _ _ (by omega) (by omega)).mono ?_
    rintro e w1 ⟨rfl, hb⟩
    have HB := Lib.hid hb
    clear hb
    simp only [afiV, safiV, Int.reduceEq, if_true, if_false]
    go_wp2_with fail
    refine (put_ok ByteArray.empty _ 2 _ (by decide) (by decide) (by decide) (by decide) (by decide) (by decide)).mono ?_
    rintro e w2 ⟨rfl, hb2⟩
    have HB2 := Lib.hid (HB.out.trans (hb2.mono HB.out.size))
    clear hb2 HB
    first
      | have hcv : (convert 47 9 (.slice (some ⟨w2.heap.size, 0, none⟩) 2 2)).run Try.prog (w2.alloc (.cells #[.int .u8 0, .int .u8 1] 5)) = .ok (.string ⟨#[0, 1]⟩) (w2.alloc (.cells #[.int .u8 0, .int .u8 1] 5)) := run_str_list w2 [0, 1]
        go_wp2_with fail
        go_ret2
        exact ⟨rfl, HB2.out.alloc HB2.out.size _⟩
      | have hcv : (convert 47 9 (.slice (some ⟨w2.heap.size, 0, none⟩) 2 2)).run Try.prog (w2.alloc (.cells #[.int .u8 0, .int .u8 4] 5)) = .ok (.string ⟨#[0, 4]⟩) (w2.alloc (.cells #[.int .u8 0, .int .u8 4] 5)) := run_str_list w2 [0, 4]
        go_wp2_with fail
        go_ret2
        exact ⟨rfl, HB2.out.alloc HB2.out.size _⟩
      | have hcv : (convert 47 9 (.slice (some ⟨w2.heap.size, 0, none⟩) 2 2)).run Try.prog (w2.alloc (.cells #[.int .u8 0, .int .u8 128] 5)) = .ok (.string ⟨#[0, 128]⟩) (w2.alloc (.cells #[.int .u8 0, .int .u8 128] 5)) := run_str_list w2 [0, 128]
        go_wp2_with fail
        go_ret2
        exact ⟨rfl, HB2.out.alloc HB2.out.size _⟩

theorem refresh_out (f : Int) (w : World) (h : f < 1 ∨ 5 < f) :
    Calls Try.prog 21 #[.int .i64 f] w fun e w' => e = .returned (.tuple #[.string ByteArray.empty, .int .i64 2]) ∧ Below w.heap.size w w' := by
  go_enter Try.func21, Try.ntmps21
  go_wp2_with fail
  refine (afi_out _ _ h).mono ?_
  rintro e w1 ⟨rfl, hb⟩
  have HB := Lib.hid hb
  clear hb
  go_wp2_with fail
  go_ret2
  exact ⟨rfl, HB.out⟩

theorem rrefresh_in (f : Int) (w : World) (h1 : 1 ≤ f) (h2 : f ≤ 5) :
    Calls Try.prog 22 #[.int .i64 f] w fun e w' => e = .returned (.tuple #[.string (refS f), .int .i64 0]) ∧ Below w.heap.size w w' := by
  rcases fam_five h1 h2 with rfl | rfl | rfl | rfl | rfl
  · clear h1 h2
    have hcv : (convert 47 9 (.slice (some ⟨w.heap.size, 0, none⟩) 4 4)).run Try.prog (w.alloc (.cells #[.int .u8 0, .int .u8 1, .int .u8 0, .int .u8 1] 5)) = .ok (.string ⟨#[0, 1, 0, 1]⟩) (w.alloc (.cells #[.int .u8 0, .int .u8 1, .int .u8 0, .int .u8 1] 5)) := run_str_list w [0, 1, 0, 1]
    go_enter Try.func22, Try.ntmps22
    go_wp2_with fail
    refine (rafi_in 1 _ (by omega) (by omega)).mono ?_
    rintro e w1 ⟨rfl, rfl⟩
    simp only [afiV, safiV, Int.reduceEq, if_true, if_false]
    go_wp2_with fail
    go_ret2
    exact ⟨rfl, (Below.refl _ _).alloc (Nat.le_refl _) _⟩
  · clear h1 h2
    have hcv : (convert 47 9 (.slice (some ⟨w.heap.size, 0, none⟩) 4 4)).run Try.prog (w.alloc (.cells #[.int .u8 0, .int .u8 2, .int .u8 0, .int .u8 1] 5)) = .ok (.string ⟨#[0, 2, 0, 1]⟩) (w.alloc (.cells #[.int .u8 0, .int .u8 2, .int .u8 0, .int .u8 1] 5)) := run_str_list w [0, 2, 0, 1]
    go_enter Try.func22, Try.ntmps22
    go_wp2_with fail
    refine (rafi_in 2 _ (by omega) (by omega)).mono ?_
    rintro e w1 ⟨rfl, rfl⟩
    simp only [afiV, safiV, Int.reduceEq, if_true, if_false]
    go_wp2_with fail
    go_ret2
    exact ⟨rfl, (Below.refl _ _).alloc (Nat.le_refl _) _⟩
  · clear h1 h2
    have hcv : (convert 47 9 (.slice (some ⟨w.heap.size, 0, none⟩) 4 4)).run Try.prog (w.alloc (.cells #[.int .u8 0, .int .u8 1, .int .u8 0, .int .u8 4] 5)) = .ok (.string ⟨#[0, 1, 0, 4]⟩) (w.alloc (.cells #[.int .u8 0, .int .u8 1, .int .u8 0, .int .u8 4] 5)) := run_str_list w [0, 1, 0, 4]
    go_enter Try.func22, Try.ntmps22
    go_wp2_with fail
    refine (rafi_in 3 _ (by omega) (by omega)).mono ?_
    rintro e w1 ⟨rfl, rfl⟩
    simp only [afiV, safiV, Int.reduceEq, if_true, if_false]
    go_wp2_with fail
    go_ret2
    exact ⟨rfl, (Below.refl _ _).alloc (Nat.le_refl _) _⟩
  · clear h1 h2
    have hcv : (convert 47 9 (.slice (some ⟨w.heap.size, 0, none⟩) 4 4)).run Try.prog (w.alloc (.cells #[.int .u8 0, .int .u8 1, .int .u8 0, .int .u8 128] 5)) = .ok (.string ⟨#[0, 1, 0, 128]⟩) (w.alloc (.cells #[.int .u8 0, .int .u8 1, .int .u8 0, .int .u8 128] 5)) := run_str_list w [0, 1, 0, 128]
    go_enter Try.func22, Try.ntmps22
    go_wp2_with fail
    refine (rafi_in 4 _ (by omega) (by omega)).mono ?_
    rintro e w1 ⟨rfl, rfl⟩
    simp only [afiV, safiV, Int.reduceEq, if_true, if_false]
    go_wp2_with fail
    go_ret2
    exact ⟨rfl, (Below.refl _ _).alloc (Nat.le_refl _) _⟩
  · clear h1 h2
    have hcv : (convert 47 9 (.slice (some ⟨w.heap.size, 0, none⟩) 4 4)).run Try.prog (w.alloc (.cells #[.int .u8 0, .int .u8 2, .int .u8 0, .int .u8 128] 5)) = .ok (.string ⟨#[0, 2, 0, 128]⟩) (w.alloc (.cells #[.int .u8 0, .int .u8 2, .int .u8 0, .int .u8 128] 5)) := run_str_list w [0, 2, 0, 128]
    go_enter Try.func22, Try.ntmps22
    go_wp2_with fail
    refine (rafi_in 5 _ (by omega) (by omega)).mono ?_
    rintro e w1 ⟨rfl, rfl⟩
    simp only [afiV, safiV, Int.reduceEq, if_true, if_false]
    go_wp2_with fail
    go_ret2
    exact ⟨rfl, (Below.refl _ _).alloc (Nat.le_refl _) _⟩

theorem rrefresh_out (f : Int) (w : World) (h : f < 1 ∨ 5 < f) :
    Calls Try.prog 22 #[.int .i64 f] w fun e w' => e = .returned (.tuple #[.string ByteArray.empty, .int .i64 2]) ∧ Below w.heap.size w w' := by
  go_enter Try.func22, Try.ntmps22
  go_wp2_with fail
  refine (rafi_out _ _ h).mono ?_
  rintro e w1 ⟨rfl, rfl⟩
  go_wp2_with fail
  go_ret2
  exact ⟨rfl, Below.refl _ _⟩

end Go.Proofs.Ytpipeilmolmfpaa
