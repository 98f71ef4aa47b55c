/-
  Contracts of heraldref02.Put. Conditions: sizes.
-/
import Derived.Test.YtkcojblflebomaaGreatWireC
set_option linter.unusedVariables false
set_option linter.unusedSimpArgs false
namespace Go.Proofs.YtkcojblflebomaaGreat
open Go.RowKit

theorem rput_bad (b : ByteArray) (v size : Int) (w : World) (h : size < 1 ∨ 8 < size) :
    Calls Tryz.prog 71 #[.string b, .int .u64 v, .int .i64 size] w fun e w' => e = .returned (.tuple #[.string ByteArray.empty, .int .i64 2]) ∧ w' = w := by
  rcases h with h | h
  · go_enter Tryz.func71, Tryz.ntmps71
    go_wp2
    go_ret2
    exact ⟨rfl, rfl⟩
  · have h0 : ¬ size < 1 := by omega
    go_enter Tryz.func71, Tryz.ntmps71
    go_wp2
    go_ret2
    exact ⟨rfl, rfl⟩

theorem rput_long (b : ByteArray) (v : Int) (size : Nat) (w : World) (v0 : 0 ≤ v) (v1 : v < 18446744073709551616) (s0 : 1 ≤ size) (s1 : size < 8) (hfit : ((v / 2 ^ (8 * size)) == 0) = false) :
    Calls Tryz.prog 71 #[.string b, .int .u64 v, .int .i64 size] w fun e w' => e = .returned (.tuple #[.string ByteArray.empty, .int .i64 3]) ∧ w' = w := by
  go_enter Tryz.func71, Tryz.ntmps71
  go_wp2
  go_ret2
  exact ⟨rfl, rfl⟩

set_option maxRecDepth 100000 in
theorem rput_ok (b : ByteArray) (v : Int) (size : Nat) (w : World) (hb : b.size + 8 ≤ 140737488355328) (v0 : 0 ≤ v) (v1 : v < 18446744073709551616) (s0 : 1 ≤ size) (s1 : size ≤ 8) (hfit : size < 8 → ((v / 2 ^ (8 * size)) == 0) = true) :
    Calls Tryz.prog 71 #[.string b, .int .u64 v, .int .i64 size] w fun e w' => e = .returned (.tuple #[.string (putS b v.toNat size size), .int .i64 0]) ∧ Below w.heap.size w w' := by
  by_cases h8 : size < 8
  all_goals
    first
    | (have hfit := hfit h8
       have h8' : (size : Int) < 8 := by omega
       go_enter Tryz.func71, Tryz.ntmps71)
    | (have h8' : ¬ (size : Int) < 8 := by omega
       go_enter Tryz.func71, Tryz.ntmps71)
    go_wp2_with fail
    go_loopw [0, 8] (fun o i wr => ∃ k : Nat, k ≤ size ∧ i = .int .i64 ((size : Int) - 1 - k) ∧ o = .string (putS b v.toNat size k) ∧ Below w.heap.size w wr) (fun _ i _ => (intOf i + 1).toNat)
    case atStart => exact ⟨0, Nat.zero_le _, by go_num, by rw [putS_zero], Below.refl _ _⟩
    case round =>
      obtain ⟨k, hk, rfl, rfl, hb2⟩ := hrel
      have HB2 := Lib.hid hb2
      clear hb2
      by_cases hlt : k < size
      · have q0 : 0 ≤ (size : Int) - 1 - k := by omega
        have hcv := run_str_one wr (UInt8.ofNat (v.toNat / 2 ^ (8 * (size - 1 - k)))) (v / 2 ^ (8 * (size - 1 - k)) % 256) (byte_of v _ v0)
        have hnext := Lib.hid (putS_succ b v.toNat size k)
        have hsz := putS_size b v.toNat size k
        generalize putS b v.toNat size k = sk at hsz hnext ⊢
        obtain ⟨l1, hl1⟩ : ∃ l1, l1 = [UInt8.ofNat (v.toNat / 2 ^ (8 * (size - 1 - k)))] := ⟨_, rfl⟩
        rw [← hl1] at hcv hnext
        have hl2 : l1.length ≤ 1 := by rw [hl1]; simp
        clear hl1
        have hszl : sk.size ≤ 140737488355328 := by omega
        clear hsz
        go_wp2_with fail
        exact ⟨⟨k + 1, by omega, by go_num, by rw [hnext.out], HB2.out.alloc HB2.out.size _⟩, by simp [intOf]; omega⟩
      · obtain rfl : size = k := by omega
        go_wp2_with fail
        go_ret2
        exact ⟨rfl, HB2.out⟩

end Go.Proofs.YtkcojblflebomaaGreat
