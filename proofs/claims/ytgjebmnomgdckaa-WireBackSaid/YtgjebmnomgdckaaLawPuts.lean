/-
  WirePuts: for every bytes, number and size the law answers true. Conditions: none of its own.
-/
import Derived.Test.YtgjebmnomgdckaaWireD
set_option linter.unusedVariables false
set_option linter.unusedSimpArgs false
namespace Go.Proofs.Ytgjebmnomgdckaa
open Go.RowKit
open Go.ChangeShapes Go.WideShapes Go.ChangeAt
open Go.ChangeMaps (open_string shut_string)

theorem lt_bitLen : ∀ (k x : Nat), x < 2 ^ k → k ≤ 64 → x < 2 ^ (Lib.bitLen x) := by
  intro k
  induction k with
  | zero =>
    intro x h _
    have : x = 0 := by simpa using h
    subst this
    decide
  | succ k ih =>
    intro x h hk
    by_cases h0 : x = 0
    · subst h0; decide
    · have h64 : x < 2 ^ 64 := Nat.lt_of_lt_of_le h (Nat.pow_le_pow_right (by omega) hk)
      rw [Lib.bitLen_half x h0 h64]
      have h2 : x / 2 < 2 ^ k := by rw [Nat.pow_succ] at h; omega
      have := ih (x / 2) h2 (by omega)
      rw [Nat.add_comm, Nat.pow_succ]
      omega
theorem bitLen_iff (x k : Nat) (hx : x < 18446744073709551616) (hk : k ≤ 64) : Lib.bitLen x ≤ k ↔ x < 2 ^ k := by
  constructor
  · intro h
    exact Nat.lt_of_lt_of_le (lt_bitLen 64 x (by simpa using hx) (Nat.le_refl _)) (Nat.pow_le_pow_right (by omega) h)
  · intro h
    exact Lib.bitLen_le x k hk h

theorem div_pow_zero (v : Int) (n : Nat) (v0 : 0 ≤ v) : ((v / 2 ^ n) == 0) = decide (v.toNat < 2 ^ n) := by
  obtain ⟨u, rfl⟩ := Int.eq_ofNat_of_zero_le v0
  rw [Int.toNat_natCast]
  have h : ((2 : Int) ^ n) = ((2 ^ n : Nat) : Int) := by simp
  rw [h, ← Int.natCast_ediv]
  have hp : 0 < 2 ^ n := Nat.pow_pos (by omega)
  have e1 : (((u / 2 ^ n : Nat) : Int) == 0) = decide (u / 2 ^ n = 0) := by
    rw [Bool.eq_iff_iff, beq_iff_eq, decide_eq_true_iff]; omega
  rw [e1]
  congr 1
  rw [Nat.div_eq_zero_iff]
  simp

/-- both Puts hand back the same, whatever the arguments -/
theorem puts_same (b : ByteArray) (v size : Int) (hb : b.size + 8 ≤ 140737488355328) (v0 : 0 ≤ v) (v1 : v < 18446744073709551616) :
    ∃ (r : ByteArray) (n : Int), (∀ w : World, Calls Try.prog 9 #[.string b, .int .u64 v, .int .i64 size] w fun e w' => e = .returned (.tuple #[.string r, .int .i64 n]) ∧ Below w.heap.size w w') ∧
      (∀ w : World, Calls Try.prog 10 #[.string b, .int .u64 v, .int .i64 size] w fun e w' => e = .returned (.tuple #[.string r, .int .i64 n]) ∧ Below w.heap.size w w') := by
  by_cases hbad : size < 1 ∨ 8 < size
  · exact ⟨_, _, fun w => (put_bad b v size w hbad).mono fun e w' ⟨h1, h2⟩ => ⟨h1, h2 ▸ Below.refl _ _⟩, fun w => (rput_bad b v size w hbad).mono fun e w' ⟨h1, h2⟩ => ⟨h1, h2 ▸ Below.refl _ _⟩⟩
  · obtain ⟨n, rfl⟩ := Int.eq_ofNat_of_zero_le (show 0 ≤ size by omega)
    have s0 : 1 ≤ n := by omega
    have s1 : n ≤ 8 := by omega
    have hx : v.toNat < 18446744073709551616 := by omega
    have hiff := bitLen_iff v.toNat (8 * n) hx (by omega)
    have hdiv := div_pow_zero v (8 * n) v0
    by_cases hfit : v.toNat < 2 ^ (8 * n)
    · exact ⟨_, _, fun w => put_ok b v n w hb v0 v1 s0 s1 (hiff.2 hfit), fun w => rput_ok b v n w hb v0 v1 s0 s1 (fun _ => by rw [hdiv]; simpa using hfit)⟩
    · have hlong : 8 * n < Lib.bitLen v.toNat := by
        rcases Nat.lt_or_ge (8 * n) (Lib.bitLen v.toNat) with h | h
        · exact h
        · exact absurd (hiff.1 h) hfit
      have h8 : n < 8 := by
        rcases Nat.lt_or_ge n 8 with h | h
        · exact h
        · have : n = 8 := by omega
          subst this
          exact absurd (by simpa using hx) hfit
      exact ⟨_, _, fun w => (put_long b v n w v0 v1 s0 s1 hlong).mono fun e w' ⟨h1, h2⟩ => ⟨h1, h2 ▸ Below.refl _ _⟩,
        fun w => (rput_long b v n w v0 v1 s0 h8 (by rw [hdiv]; simpa using hfit)).mono fun e w' ⟨h1, h2⟩ => ⟨h1, h2 ▸ Below.refl _ _⟩⟩

theorem wirePuts_walk (b : ByteArray) (v size : Int) (w : World) (hb : b.size ≤ maxLen) (v0 : 0 ≤ v) (v1 : v < 18446744073709551616) (i0 : -9223372036854775808 ≤ size) (i1 : size ≤ 9223372036854775807) :
    Calls Try.prog 3 #[.string b, .int .u64 v, .int .i64 size] w fun e w' => e = .returned (.bool true) ∧ Below w.heap.size w w' := by
  unfold maxLen at hb
  obtain ⟨r, n, h1, h2⟩ := puts_same (b.extract 0 (min (b.size : Int) 1000).toNat) v size (by simp; omega) v0 v1
  have H1 := Lib.hid h1
  have H2 := Lib.hid h2
  clear h1 h2
  go_enter Try.func3, Try.ntmps3
  go_wp2_with fail
  refine (H1.out _).mono ?_
  rintro e w1 ⟨rfl, hb1⟩
  have HB1 := Lib.hid hb1
  clear hb1
  go_wp2_with fail
  refine (H2.out _).mono ?_
  rintro e w2 ⟨rfl, hb2⟩
  have HB2 := Lib.hid (HB1.out.trans (hb2.mono HB1.out.size))
  clear hb2 HB1
  go_wp2_with fail
  refine (works_any _).mono ?_
  rintro e w3 ⟨rfl, hb3⟩
  have HB3 := Lib.hid (HB2.out.trans (hb3.mono HB2.out.size))
  clear hb3 HB2
  go_wp2_with fail
  go_ret
  exact ⟨ret_bool (by simp), HB3.out⟩

set_option maxRecDepth 100000 in
theorem wirePuts_lifted (os : Os) (started : os.Started) (H : Type) (enc : TypeId × Value → H) :
    ReturnsInHanded {} Try.checked os 3 .any (Rows.wirePutsSpec.pre6 enc Try.prog Try.f3 Rows.wirePutsRow.domain false) (Rows.wirePutsSpec.post enc Try.prog Try.f3 false true false false) := by
  refine returnsInHanded_of_change (C := Try.checked) own started (by kernel_rfl) Try.func3
    (ChangeSpec.witness6 (enc := enc) (C := Try.checked) false ⟨#[], #[.string .empty, .int .u64 0, .int .i64 0], []⟩ 8 (by kernel_rfl) (by kernel_rfl) (by kernel_rfl) (by kernel_rfl)) ?_
  intro W base args ds gs before hval0 hW hcnd _
  have hval : ∀ (j : Nat) t v, Try.f3.params[j]? = some t → args[j]? = some v → Value.okWide Try.prog W .any base t v := hval0
  have hW' := hW
  obtain ⟨p, q, hA0, hV, rfl, hfz, hnd⟩ := hW
  have hA : DataW.TrodAll enc Try.prog W 0 (fun _ => true) true Try.f3.params.toList args.toList ds p := hA0
  rw [Try.params3] at hA hval
  obtain ⟨v0, vs0, d0, ds0, p0, q0, hargs, rfl, rfl, h0, r0⟩ := trodAll_cons hA
  obtain ⟨v1, vs1, d1, ds1, p1, q1, rfl, rfl, rfl, h1, r1⟩ := trodAll_cons r0
  obtain ⟨v2, vs2, d2, ds2, p2, q2, rfl, rfl, rfl, h2, r2⟩ := trodAll_cons r1
  obtain ⟨rfl, rfl, rfl⟩ := trodAll_nil r2
  obtain rfl : args = #[v0, v1, v2] := by cases args; simp_all
  obtain ⟨rfl, rfl⟩ := trodVars_none hV
  obtain ⟨s, rfl, rfl, rfl, hs⟩ := open_string Try.underlying9 (hval 0 9 v0 rfl rfl) h0
  obtain ⟨a1, rfl, rfl, rfl, w1⟩ := open_int Try.underlying22 (hval 1 22 v1 rfl rfl) h1
  obtain ⟨a2, rfl, rfl, rfl, w2⟩ := open_int Try.underlying3 (hval 2 3 v2 rfl rfl) h2
  have b1 : 0 ≤ a1 ∧ a1 ≤ 18446744073709551615 := by simpa [Lit.wf, IntKind.min, IntKind.max, IntKind.signed, IntKind.bits] using w1
  have b2 : -9223372036854775808 ≤ a2 ∧ a2 ≤ 9223372036854775807 := by simpa [Lit.wf, IntKind.min, IntKind.max, IntKind.signed, IntKind.bits] using w2
  refine (wirePuts_walk s a1 a2 W hs b1.1 (by omega) b2.1 b2.2).mono fun e W' ⟨he, bel⟩ => ?_
  exact ⟨_, he, law_post laidOut (by kernel_rfl) rfl (by kernel_rfl) Try.underlying4 hW' rfl bel⟩

theorem wirePuts_holds : Rows.WirePutsSaid :=
  OpenClaim.holds_of_wide 3 Try.f3 rfl rfl rfl rfl rfl rfl rfl ⟨rfl, rfl, rfl, rfl, rfl⟩ rfl rfl rfl rfl rfl (by kernel_rfl) Try.func3 (by kernel_rfl)
    (of_decide_eq_true (by kernel_rfl)) (by unfold Func.isWrapper; first | (rw [if_pos (by decide +kernel)]; kernel_rfl) | (rw [if_neg (by decide +kernel)]; exact ⟨rfl, rfl⟩))
    (fun os started H enc _ => wirePuts_lifted os started H enc)

end Go.Proofs.Ytgjebmnomgdckaa
