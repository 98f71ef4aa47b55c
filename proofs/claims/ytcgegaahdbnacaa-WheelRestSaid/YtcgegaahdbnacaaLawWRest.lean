/-
  WheelRest: for all timers by small numbers, any tick and peer the law answers true: the last step. Conditions: none of its own.
-/
import Derived.Test.YtcgegaahdbnacaaWhM
import Derived.Test.YtcgegaahdbnacaaWhO
set_option linter.unusedVariables false
set_option linter.unusedSimpArgs false
namespace Go.Proofs.Ytcgegaahdbnacaa
open Go.RowKit Go.MapKept
open Go.Maps (Keyed)
open Go.ChangeShapes Go.WideShapes Go.ChangeAt

set_option maxRecDepth 100000 in
theorem wheelRest_lifted (os : Os) (started : os.Started) (H : Type) (enc : TypeId × Value → H) :
    ReturnsInHanded {} Try.checked os 4 .any (Rows.wheelRestSpec.pre6 enc Try.prog Try.f4 Rows.wheelRestRow.domain false) (Rows.wheelRestSpec.post enc Try.prog Try.f4 false true false false) := by
  refine returnsInHanded_of_change (C := Try.checked) own started (by kernel_rfl) Try.func4
    (ChangeSpec.witness6 (enc := enc) (C := Try.checked) false ⟨#[], #[.slice none 0 0, .int .u8 0, .int .u8 0], []⟩ 8 (by kernel_rfl) (by kernel_rfl) (by kernel_rfl) (by kernel_rfl)) ?_
  intro W base args ds gs before hval0 hW hcnd _
  have hval : ∀ (j : Nat) t v, Try.f4.params[j]? = some t → args[j]? = some v → Value.okWide Try.prog W .any base t v := hval0
  have hW' := hW
  obtain ⟨p, q, hA0, hV, rfl, hfz, hnd⟩ := hW
  have hA : DataW.TrodAll enc Try.prog W 0 (fun _ => true) true Try.f4.params.toList args.toList ds p := hA0
  rw [Try.params4] at hA hval
  obtain ⟨v0, vs0, d0, ds0, p0, q0, hargs, rfl, rfl, h0, r0⟩ := trodAll_cons hA
  obtain ⟨v1, vs1, d1, ds1, p1, q1, rfl, rfl, rfl, h1, r1⟩ := trodAll_cons r0
  obtain ⟨v2, vs2, d2, ds2, p2, q2, rfl, rfl, rfl, h2, r2⟩ := trodAll_cons r1
  obtain ⟨rfl, rfl, rfl⟩ := trodAll_nil r2
  obtain rfl : args = #[v0, v1, v2] := by cases args; simp_all
  obtain ⟨rfl, rfl⟩ := trodVars_none hV
  obtain ⟨A, len, cap, rfl, he⟩ := open_elems (C := 4) Try.underlying22 (by kernel_rfl) (by omega) (hval 0 22 v0 rfl rfl) h0
  obtain ⟨X, hX⟩ := sets_of (he.mono (fun cs ⟨n, y, hy⟩ => set_cs hy))
  obtain ⟨now, rfl, rfl, rfl, wf_now⟩ := open_int Try.underlying5 (hval 1 5 v1 rfl rfl) h1
  have bd_now : 0 ≤ now ∧ now ≤ 255 := by simpa [Lit.wf, IntKind.min, IntKind.max, IntKind.signed, IntKind.bits] using wf_now
  obtain ⟨peer, rfl, rfl, rfl, wf_peer⟩ := open_int Try.underlying5 (hval 2 5 v2 rfl rfl) h2
  have bd_peer : 0 ≤ peer ∧ peer ≤ 255 := by simpa [Lit.wf, IntKind.min, IntKind.max, IntKind.signed, IntKind.bits] using wf_peer
  obtain ⟨now, rfl⟩ := Int.eq_ofNat_of_zero_le bd_now.1
  obtain ⟨peer, rfl⟩ := Int.eq_ofNat_of_zero_le bd_peer.1
  refine (wheelRest_walk A len cap X now peer W hX (by omega) (by omega)).mono fun e W' ⟨he, bel⟩ => ?_
  exact ⟨_, he, law_post laidOut (by kernel_rfl) rfl (by kernel_rfl) Try.underlying4 hW' rfl bel⟩

theorem wheelRest_holds : Rows.WheelRestSaid :=
  OpenClaim.holds_of_wide 4 Try.f4 rfl rfl rfl rfl rfl rfl rfl ⟨rfl, rfl, rfl, rfl, rfl⟩ rfl rfl rfl rfl rfl (by kernel_rfl) Try.func4 (by kernel_rfl)
    (of_decide_eq_true (by kernel_rfl)) (by unfold Func.isWrapper; first | (rw [if_pos (by decide +kernel)]; kernel_rfl) | (rw [if_neg (by decide +kernel)]; exact ⟨rfl, rfl⟩))
    (fun os started H enc _ => wheelRest_lifted os started H enc)

end Go.Proofs.Ytcgegaahdbnacaa
