/-
  Contract of heraldref02.Value. Conditions: eight bytes at most.
-/
import Derived.Test.YtkcojblflebomaaGreatWireCR

set_option linter.unusedVariables false
set_option linter.unusedSimpArgs false
namespace Go.Proofs.YtkcojblflebomaaGreat
open Go.RowKit

theorem rvalue_any (t : ByteArray) (w : World) (ht : t.size ≤ 8) :
    Calls Tryz.prog 37 #[.string t] w fun e w' => e = .returned (.int .u64 (beVal t.data.toList : Nat)) ∧ w' = w := by
  go_enter Tryz.func37, Tryz.ntmps37
  go_wp2
  go_loop [3, 4] (fun v i => ∃ k : Nat, k ≤ t.size ∧ i = .int .i64 k ∧ v = .int .u64 (beVal (t.data.toList.take k) : Nat)) (fun _ i => t.size - (intOf i).toNat)
  case atStart => exact ⟨0, Nat.zero_le _, rfl, by simp [beVal]⟩
  case round =>
    obtain ⟨k, hk, rfl, rfl⟩ := hrel
    by_cases hlt : k < t.size
    · have HS := Lib.hid (beVal_step t k hlt)
      have hv := beVal_at t k (by omega)
      have hc := t[k].toNat_lt
      go_wp2
      go_round
      case rel => exact ⟨k + 1, by omega, by go_num, by rw [HS.out]⟩
      case measure => simp [intOf]; omega
    · obtain rfl : t.size = k := by omega
      go_wp2
      go_ret
      exact ⟨ret_int (by rw [List.take_of_length_le (by simp)]), rfl⟩


end Go.Proofs.YtkcojblflebomaaGreat
