/-
  The first that is not 0; the order by address. Conditions: sizes.
-/
import Derived.Test.YtoamigfjpcniaaaDeD
set_option linter.unusedVariables false
set_option linter.unusedSimpArgs false
namespace Go.Proofs.Ytoamigfjpcniaaa
open Go.RowKit Go.MapKept Go.Shelf
open Go.Lib hiding intOf

def orF (x y : Int) : Int := if x = 0 then y else x
set_option maxHeartbeats 4000000 in
theorem or64_any (x y : Int) (b : Nat) (w : World) (h0 : w.cell? ⟨b, 0, none⟩ = some (.int .i64 x)) (h1 : w.cell? ⟨b, 1, none⟩ = some (.int .i64 y)) : Calls Try.prog 70 #[.slice (some ⟨b, 0, none⟩) 2 2] w fun e w' => e = .returned (.int .i64 (orF x y)) ∧ w' = w := by
  unfold orF
  rcases beq_facts x 0 with ⟨k1, k2⟩ | ⟨k1, k2⟩
  · subst k1
    rw [if_pos rfl]
    rcases beq_facts y 0 with ⟨m1, m2⟩ | ⟨m1, m2⟩
    · subst m1
      go_enter Try.func70, Try.ntmps70
      go_wp2_with fail
      go_loop [8] (fun x => ∃ k : Nat, k ≤ 2 ∧ x = .int .i64 k) (fun x => 3 - (intOf x).toNat)
      case atStart => exact ⟨0, by omega, rfl⟩
      case round =>
        obtain ⟨k, hk, rfl⟩ := hrel
        rcases (show k = 0 ∨ k = 1 ∨ k = 2 by omega) with rfl | rfl | rfl
        · go_wp2_with fail
          exact ⟨⟨1, by omega, by go_num⟩, by simp [intOf]⟩
        · go_wp2_with fail
          exact ⟨⟨2, by omega, by go_num⟩, by simp [intOf]⟩
        · go_wp2_with fail
          go_ret
          exact ⟨rfl, rfl⟩
    · have m3 : (y != 0) = true := by rw [bne_iff_ne]; exact m1
      go_enter Try.func70, Try.ntmps70
      go_wp2_with fail
      go_loop [8] (fun x => ∃ k : Nat, k ≤ 1 ∧ x = .int .i64 k) (fun x => 3 - (intOf x).toNat)
      case atStart => exact ⟨0, by omega, rfl⟩
      case round =>
        obtain ⟨k, hk, rfl⟩ := hrel
        rcases (show k = 0 ∨ k = 1 by omega) with rfl | rfl
        · go_wp2_with fail
          exact ⟨⟨1, by omega, by go_num⟩, by simp [intOf]⟩
        · go_wp2_with fail
          go_ret
          exact ⟨rfl, rfl⟩
  · have k3 : (x != 0) = true := by rw [bne_iff_ne]; exact k1
    rw [if_neg k1]
    go_enter Try.func70, Try.ntmps70
    go_wp2_with fail
    go_loop [8] (fun x => ∃ k : Nat, k ≤ 0 ∧ x = .int .i64 k) (fun x => 3 - (intOf x).toNat)
    case atStart => exact ⟨0, by omega, rfl⟩
    case round =>
      obtain ⟨k, hk, rfl⟩ := hrel
      obtain rfl : k = 0 := by omega
      go_wp2_with fail
      go_ret
      exact ⟨rfl, rfl⟩
set_option maxHeartbeats 4000000 in
theorem or32_any (x y : Int) (b : Nat) (w : World) (h0 : w.cell? ⟨b, 0, none⟩ = some (.int .u32 x)) (h1 : w.cell? ⟨b, 1, none⟩ = some (.int .u32 y)) : Calls Try.prog 40 #[.slice (some ⟨b, 0, none⟩) 2 2] w fun e w' => e = .returned (.int .u32 (orF x y)) ∧ w' = w := by
  unfold orF
  rcases beq_facts x 0 with ⟨k1, k2⟩ | ⟨k1, k2⟩
  · subst k1
    rw [if_pos rfl]
    rcases beq_facts y 0 with ⟨m1, m2⟩ | ⟨m1, m2⟩
    · subst m1
      go_enter Try.func40, Try.ntmps40
      go_wp2_with fail
      go_loop [8] (fun x => ∃ k : Nat, k ≤ 2 ∧ x = .int .i64 k) (fun x => 3 - (intOf x).toNat)
      case atStart => exact ⟨0, by omega, rfl⟩
      case round =>
        obtain ⟨k, hk, rfl⟩ := hrel
        rcases (show k = 0 ∨ k = 1 ∨ k = 2 by omega) with rfl | rfl | rfl
        · go_wp2_with fail
          exact ⟨⟨1, by omega, by go_num⟩, by simp [intOf]⟩
        · go_wp2_with fail
          exact ⟨⟨2, by omega, by go_num⟩, by simp [intOf]⟩
        · go_wp2_with fail
          go_ret
          exact ⟨rfl, rfl⟩
    · have m3 : (y != 0) = true := by rw [bne_iff_ne]; exact m1
      go_enter Try.func40, Try.ntmps40
      go_wp2_with fail
      go_loop [8] (fun x => ∃ k : Nat, k ≤ 1 ∧ x = .int .i64 k) (fun x => 3 - (intOf x).toNat)
      case atStart => exact ⟨0, by omega, rfl⟩
      case round =>
        obtain ⟨k, hk, rfl⟩ := hrel
        rcases (show k = 0 ∨ k = 1 by omega) with rfl | rfl
        · go_wp2_with fail
          exact ⟨⟨1, by omega, by go_num⟩, by simp [intOf]⟩
        · go_wp2_with fail
          go_ret
          exact ⟨rfl, rfl⟩
  · have k3 : (x != 0) = true := by rw [bne_iff_ne]; exact k1
    rw [if_neg k1]
    go_enter Try.func40, Try.ntmps40
    go_wp2_with fail
    go_loop [8] (fun x => ∃ k : Nat, k ≤ 0 ∧ x = .int .i64 k) (fun x => 3 - (intOf x).toNat)
    case atStart => exact ⟨0, by omega, rfl⟩
    case round =>
      obtain ⟨k, hk, rfl⟩ := hrel
      obtain rfl : k = 0 := by omega
      go_wp2_with fail
      go_ret
      exact ⟨rfl, rfl⟩
end Go.Proofs.Ytoamigfjpcniaaa
