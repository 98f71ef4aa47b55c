/-
  Contracts of wire.Unhex, heraldref02.Unhex and digit. Conditions: sizes.
-/
import Derived.Test.YtgjebmnomgdckaaHexA
set_option linter.unusedVariables false
set_option linter.unusedSimpArgs false
namespace Go.Proofs.Ytgjebmnomgdckaa
open Go.RowKit

def digL : List UInt8 := [48, 49, 50, 51, 52, 53, 54, 55, 56, 57, 97, 98, 99, 100, 101, 102]
/-- a digit's worth; 16: none -/
def undig (c : UInt8) : Nat := digL.idxOf c
theorem undig_le (c : UInt8) : undig c ≤ 16 := by
  have := List.idxOf_le_length (a := c) (l := digL)
  exact this
/-- .. as an index, -1: none -/
def undigI (c : UInt8) : Int := if undig c < 16 then (undig c : Int) else -1
theorem indexByte_dig (c : UInt8) : Lib.indexByte digL c = undigI c := by
  have h : ∀ n : Fin 256, Lib.indexByte digL (UInt8.ofNat n.val) = undigI (UInt8.ofNat n.val) := by decide +kernel
  have := h ⟨c.toNat, c.toNat_lt⟩
  simpa using this
theorem digL_at : ∀ (n : Nat) (h : n < (ByteArray.mk #[48, 49, 50, 51, 52, 53, 54, 55, 56, 57, 97, 98, 99, 100, 101, 102]).size), (ByteArray.mk #[48, 49, 50, 51, 52, 53, 54, 55, 56, 57, 97, 98, 99, 100, 101, 102])[n]'h = hdig n := digs_at

theorem ib_any (c : UInt8) (w : World) :
    Calls Try.prog 26 #[.string ⟨#[48, 49, 50, 51, 52, 53, 54, 55, 56, 57, 97, 98, 99, 100, 101, 102]⟩, .int .u8 c.toNat] w fun e w' => e = .returned (.int .i64 (undigI c)) ∧ w' = w := by
  refine (Try.strings_IndexByte ⟨#[48, 49, 50, 51, 52, 53, 54, 55, 56, 57, 97, 98, 99, 100, 101, 102]⟩ c.toNat w).mono fun e w' ⟨h1, h2⟩ => ⟨?_, h2⟩
  rw [h1, ← indexByte_dig]
  congr 3
  simp

theorem digit_any (c : UInt8) (w : World) :
    Calls Try.prog 27 #[.int .u8 c.toNat] w fun e w' => e = .returned (.int .u8 (undig c : Nat)) ∧ w' = w := by
  have hdg := digs_at
  have hc := c.toNat_lt
  have hlo : ∀ k, k < undig c → ¬ ((hdig k).toNat : Int) = (c.toNat : Int) := by
    have h : ∀ n : Fin 256, ∀ k, k < undig (UInt8.ofNat n.val) → ¬ ((hdig k).toNat : Int) = ((UInt8.ofNat n.val).toNat : Int) := by
      have h' : ∀ n : Fin 256, ∀ k : Fin 16, k.val < undig (UInt8.ofNat n.val) → ¬ ((hdig k.val).toNat : Int) = ((UInt8.ofNat n.val).toNat : Int) := by decide +kernel
      intro n k hk
      exact h' n ⟨k, Nat.lt_of_lt_of_le hk (undig_le _)⟩ hk
    intro k hk
    have := h ⟨c.toNat, c.toNat_lt⟩ k (by simpa using hk)
    simpa using this
  have hhi : undig c < 16 → ((hdig (undig c)).toNat : Int) = (c.toNat : Int) := by
    have h' : ∀ n : Fin 256, undig (UInt8.ofNat n.val) < 16 → ((hdig (undig (UInt8.ofNat n.val))).toNat : Int) = ((UInt8.ofNat n.val).toNat : Int) := by decide +kernel
    intro hk
    have := h' ⟨c.toNat, c.toNat_lt⟩ (by simpa using hk)
    simpa using this
  have hu := undig_le c
  have HLO := Lib.hid hlo
  have HHI := Lib.hid hhi
  clear hlo hhi
  generalize undig c = u at HLO HHI hu ⊢
  go_enter Try.func27, Try.ntmps27
  go_wp2_with fail
  go_loop [3] (fun i => ∃ k : Nat, k ≤ u ∧ i = .int .i64 k) (fun i => 17 - (intOf i).toNat)
  case atStart => exact ⟨0, Nat.zero_le _, rfl⟩
  case round =>
    obtain ⟨k, hk, rfl⟩ := hrel
    by_cases h16 : k < 16
    · by_cases hlt : k < u
      · have hne : (((hdig k).toNat : Int) == (c.toNat : Int)) = false := by
          rw [beq_eq_false_iff_ne]
          exact HLO.out k hlt
        go_wp2_with fail
        exact ⟨⟨k + 1, by omega, by go_num⟩, by simp [intOf]; omega⟩
      · obtain rfl : u = k := by omega
        have hee : (((hdig u).toNat : Int) == (c.toNat : Int)) = true := by
          rw [beq_iff_eq]
          exact HHI.out h16
        go_wp2_with fail
        go_ret
        exact ⟨rfl, rfl⟩
    · obtain rfl : u = 16 := by omega
      obtain rfl : k = 16 := by omega
      go_wp2_with fail
      go_ret
      exact ⟨rfl, rfl⟩

end Go.Proofs.Ytgjebmnomgdckaa
