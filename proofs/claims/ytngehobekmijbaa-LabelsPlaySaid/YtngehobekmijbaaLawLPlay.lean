/-
  LabelsPlay: for all lows, highs, steps the law answers true: the last step. Conditions: none of its own.
-/
import Derived.Test.YtngehobekmijbaaRlH
set_option linter.unusedVariables false
set_option linter.unusedSimpArgs false
namespace Go.Proofs.Ytngehobekmijbaa
open Go.RowKit Go.MapKept
open Go.Maps (Keyed)
open Go.ChangeShapes Go.WideShapes Go.ChangeAt

set_option maxRecDepth 100000 in
theorem labelsPlay_lifted (os : Os) (started : os.Started) (H : Type) (enc : TypeId × Value → H) :
    ReturnsInHanded {} Try.checked os 5 .any (Rows.labelsPlaySpec.pre6 enc Try.prog Try.f5 Rows.labelsPlayRow.domain false) (Rows.labelsPlaySpec.post enc Try.prog Try.f5 false true false false) := by
  refine returnsInHanded_of_change (C := Try.checked) own started (by kernel_rfl) Try.func5
    (ChangeSpec.witness6 (enc := enc) (C := Try.checked) false ⟨#[], #[.int .u32 0, .int .u32 0, .slice none 0 0], []⟩ 8 (by kernel_rfl) (by kernel_rfl) (by kernel_rfl) (by kernel_rfl)) ?_
  intro W base args ds gs before hval0 hW hcnd _
  have hval : ∀ (j : Nat) t v, Try.f5.params[j]? = some t → args[j]? = some v → Value.okWide Try.prog W .any base t v := hval0
  have hW' := hW
  obtain ⟨p, q, hA0, hV, rfl, hfz, hnd⟩ := hW
  have hA : DataW.TrodAll enc Try.prog W 0 (fun _ => true) true Try.f5.params.toList args.toList ds p := hA0
  rw [Try.params5] at hA hval
  obtain ⟨v0, vs0, d0, ds0, p0, q0, hargs, rfl, rfl, h0, r0⟩ := trodAll_cons hA
  obtain ⟨v1, vs1, d1, ds1, p1, q1, rfl, rfl, rfl, h1, r1⟩ := trodAll_cons r0
  obtain ⟨v2, vs2, d2, ds2, p2, q2, rfl, rfl, rfl, h2, r2⟩ := trodAll_cons r1
  obtain ⟨rfl, rfl, rfl⟩ := trodAll_nil r2
  obtain rfl : args = #[v0, v1, v2] := by cases args; simp_all
  obtain ⟨rfl, rfl⟩ := trodVars_none hV
  obtain ⟨low, rfl, rfl, rfl, wf_low⟩ := open_int Try.underlying27 (hval 0 27 v0 rfl rfl) h0
  have bd_low : 0 ≤ low ∧ low ≤ 4294967295 := by simpa [Lit.wf, IntKind.min, IntKind.max, IntKind.signed, IntKind.bits] using wf_low
  obtain ⟨high, rfl, rfl, rfl, wf_high⟩ := open_int Try.underlying27 (hval 1 27 v1 rfl rfl) h1
  have bd_high : 0 ≤ high ∧ high ≤ 4294967295 := by simpa [Lit.wf, IntKind.min, IntKind.max, IntKind.signed, IntKind.bits] using wf_high
  obtain ⟨A, len, cap, rfl, he⟩ := open_elems (C := 7) Try.underlying45 (by kernel_rfl) (by omega) (hval 2 45 v2 rfl rfl) h2
  have he := he.mono (fun cs ⟨n, y, hy⟩ => do_cs hy)
  obtain ⟨low, rfl⟩ := Int.eq_ofNat_of_zero_le bd_low.1
  obtain ⟨high, rfl⟩ := Int.eq_ofNat_of_zero_le bd_high.1
  refine (labelsPlay_walk A len cap low high W he (by omega) (by omega)).mono fun e W' ⟨he, bel⟩ => ?_
  exact ⟨_, he, law_post laidOut (by kernel_rfl) rfl (by kernel_rfl) Try.underlying4 hW' rfl bel⟩

theorem labelsPlay_holds : Rows.LabelsPlaySaid :=
  OpenClaim.holds_of_wide 5 Try.f5 rfl rfl rfl rfl rfl rfl rfl ⟨rfl, rfl, rfl, rfl, rfl⟩ rfl rfl rfl rfl rfl (by kernel_rfl) Try.func5 (by kernel_rfl)
    (of_decide_eq_true (by kernel_rfl)) (by unfold Func.isWrapper; first | (rw [if_pos (by decide +kernel)]; kernel_rfl) | (rw [if_neg (by decide +kernel)]; exact ⟨rfl, rfl⟩))
    (fun os started H enc _ => labelsPlay_lifted os started H enc)

end Go.Proofs.Ytngehobekmijbaa
