/-
  Contracts of msg.ReadNote, Told and of heraldref12.ReadNote, Told. Conditions: sizes.
-/
import Derived.Test.YtpipeilmolmfpaaMsgB
import Derived.Handy
import Derived.WalkSpells
import Derived.WalkLawsBesides
import Derived.Deep.QuietTactic
import Derived.BigQuiet
import Derived.BigRegion
import Derived.Deep.RegionHeld3
set_option linter.unusedVariables false
set_option linter.unusedSimpArgs false
namespace Go.Proofs.Ytpipeilmolmfpaa
open Go.RowKit

theorem told_any (fn : Nat) (hfn : fn = 19 ∨ fn = 20) (a : Int) (c s : UInt8) (w : World) :
    Calls Try.prog fn #[verd a c.toNat s.toNat] w fun e w' => e = .returned (if a = 3 then .tuple #[noteV c s ByteArray.empty, .bool true] else .tuple #[noteV 0 0 ByteArray.empty, .bool false]) ∧ Below w.heap.size w w' := by
  unfold noteV verd
  by_cases h0 : a = 3
  · rw [if_pos h0]
    subst h0
    rcases hfn with rfl | rfl
    · go_enter Try.func19, Try.ntmps19
      go_wp2
      refine bodyPost_ret (v := .tuple #[.agg #[.int .u8 c.toNat, .int .u8 s.toNat, .string ByteArray.empty], .bool true]) (by simp [results, Try.results19, go_sem] <;> rfl) rfl ⟨rfl, ?_⟩
      go_grown
    · go_enter Try.func20, Try.ntmps20
      go_wp2
      refine bodyPost_ret (v := .tuple #[.agg #[.int .u8 c.toNat, .int .u8 s.toNat, .string ByteArray.empty], .bool true]) (by simp [results, Try.results20, go_sem] <;> rfl) rfl ⟨rfl, ?_⟩
      go_grown
  · rw [if_neg h0]
    have e0 : (a == 3) = false := by rw [beq_eq_false_iff_ne]; exact h0
    have e0' : (a != 3) = true := by rw [bne, e0]; rfl
    clear h0
    rcases hfn with rfl | rfl
    · go_enter Try.func19, Try.ntmps19
      go_wp2
      refine bodyPost_ret (v := .tuple #[.agg #[.int .u8 0, .int .u8 0, .string ByteArray.empty], .bool false]) (by simp [results, Try.results19, go_sem] <;> rfl) rfl ⟨rfl, ?_⟩
      go_grown
    · go_enter Try.func20, Try.ntmps20
      go_wp2
      refine bodyPost_ret (v := .tuple #[.agg #[.int .u8 0, .int .u8 0, .string ByteArray.empty], .bool false]) (by simp [results, Try.results20, go_sem] <;> rfl) rfl ⟨rfl, ?_⟩
      go_grown

set_option maxRecDepth 100000 in
theorem readnote_any (fn : Nat) (hfn : fn = 17 ∨ fn = 18) (b : ByteArray) (w : World) (hb : b.size ≤ 1152921504606846976) :
    Calls Try.prog fn #[.string b] w fun e w' => e = .returned (if 4077 < b.size then .tuple #[noteV 0 0 ByteArray.empty, .int .i64 3] else if b.size < 2 ∨ b[0]! = 0 then .tuple #[noteV 0 0 ByteArray.empty, .int .i64 4] else .tuple #[noteV b[0]! b[1]! (b.extract 2 b.size), .int .i64 0]) ∧ Below w.heap.size w w' := by
  unfold noteV
  by_cases h0 : 4077 < b.size
  · rw [if_pos h0]
    rcases hfn with rfl | rfl
    · go_enter Try.func17, Try.ntmps17
      go_wp2
      refine bodyPost_ret (v := .tuple #[.agg #[.int .u8 0, .int .u8 0, .string ByteArray.empty], .int .i64 3]) (by simp [results, Try.results17, go_sem] <;> rfl) rfl ⟨rfl, ?_⟩
      go_grown
    · go_enter Try.func18, Try.ntmps18
      go_wp2
      refine bodyPost_ret (v := .tuple #[.agg #[.int .u8 0, .int .u8 0, .string ByteArray.empty], .int .i64 3]) (by simp [results, Try.results18, go_sem] <;> rfl) rfl ⟨rfl, ?_⟩
      go_grown
  rw [if_neg h0]
  have hs : b.size ≤ 4077 := by omega
  clear h0
  by_cases h1 : b.size < 2
  · rw [if_pos (Or.inl h1)]
    rcases hfn with rfl | rfl
    · go_enter Try.func17, Try.ntmps17
      go_wp2
      refine bodyPost_ret (v := .tuple #[.agg #[.int .u8 0, .int .u8 0, .string ByteArray.empty], .int .i64 4]) (by simp [results, Try.results17, go_sem] <;> rfl) rfl ⟨rfl, ?_⟩
      go_grown
    · go_enter Try.func18, Try.ntmps18
      go_wp2
      refine bodyPost_ret (v := .tuple #[.agg #[.int .u8 0, .int .u8 0, .string ByteArray.empty], .int .i64 4]) (by simp [results, Try.results18, go_sem] <;> rfl) rfl ⟨rfl, ?_⟩
      go_grown
  have hs2 : 2 ≤ b.size := by omega
  clear h1
  have l0 : 0 < b.size := by omega
  have l1 : 1 < b.size := by omega
  have l1i : (1 : Int) < (b.size : Int) := by omega
  have l2i : (2 : Int) ≤ (b.size : Int) := by omega
  rw [getElem!_pos b 0 l0, getElem!_pos b 1 l1]
  by_cases h2 : b[0] = 0
  · rw [if_pos (Or.inr h2)]
    have e0 : (((b[0].toNat : Nat) : Int) == 0) = true := by rw [h2]; rfl
    clear h2
    rcases hfn with rfl | rfl
    · go_enter Try.func17, Try.ntmps17
      go_wp2
      refine bodyPost_ret (v := .tuple #[.agg #[.int .u8 0, .int .u8 0, .string ByteArray.empty], .int .i64 4]) (by simp [results, Try.results17, go_sem] <;> rfl) rfl ⟨rfl, ?_⟩
      go_grown
    · go_enter Try.func18, Try.ntmps18
      go_wp2
      refine bodyPost_ret (v := .tuple #[.agg #[.int .u8 0, .int .u8 0, .string ByteArray.empty], .int .i64 4]) (by simp [results, Try.results18, go_sem] <;> rfl) rfl ⟨rfl, ?_⟩
      go_grown
  have e0 : (((b[0].toNat : Nat) : Int) == 0) = false := by
    rw [beq_eq_false_iff_ne]
    intro h
    apply h2
    have : b[0].toNat = 0 := by omega
    exact UInt8.toNat_inj.1 this
  have h2q : ¬ (b.size < 2 ∨ b[0] = 0) := fun h => h.elim (fun h => absurd h (by omega)) h2
  rw [if_neg h2q]
  clear h2 h2q
  rcases hfn with rfl | rfl
  · go_enter Try.func17, Try.ntmps17
    go_wp2_with fail
    go_region
    all_goals go_wp2_with fail
    refine bodyPost_ret (v := .tuple #[.agg #[.int .u8 b[0].toNat, .int .u8 b[1].toNat, .string (b.extract 2 b.size)], .int .i64 0]) (by simp [results, Try.results17, go_sem] <;> rfl) rfl ⟨rfl, ?_⟩
    go_grown
  · go_enter Try.func18, Try.ntmps18
    go_wp2_with fail
    go_region
    all_goals go_wp2_with fail
    refine bodyPost_ret (v := .tuple #[.agg #[.int .u8 b[0].toNat, .int .u8 b[1].toNat, .string (b.extract 2 b.size)], .int .i64 0]) (by simp [results, Try.results18, go_sem] <;> rfl) rfl ⟨rfl, ?_⟩
    go_grown

end Go.Proofs.Ytpipeilmolmfpaa
