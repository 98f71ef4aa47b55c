/-
  MsgSizes: for every kind and number of bytes the law answers true. Conditions: none of its own.
-/
import Derived.Test.YtpipeilmolmfpaaMsgF
set_option linter.unusedVariables false
set_option linter.unusedSimpArgs false
namespace Go.Proofs.Ytpipeilmolmfpaa
open Go.RowKit
open Go.ChangeShapes Go.WideShapes Go.ChangeAt
open Go.ChangeMaps (open_string shut_string)

theorem sizeR_agg (k b : Int) : ∃ a c s : Int, sizeR k b = .agg #[.int .i64 a, .int .u8 c, .int .u8 s] := by
  unfold sizeR verd
  split
  · exact ⟨_, _, _, rfl⟩
  · exact ⟨_, _, _, rfl⟩

theorem least_any (k : Int) (w : World) : ∃ (n : Int) (is : Bool), Calls Try.prog 10 #[.int .i64 k] w (fun e w' => e = .returned (.tuple #[.int .i64 n, .bool is]) ∧ Below w.heap.size w w') ∧
    ∀ w2, Calls Try.prog 11 #[.int .i64 k] w2 (fun e w' => e = .returned (.tuple #[.int .i64 n, .bool is]) ∧ w' = w2) := by
  by_cases h : k < 1 ∨ 5 < k
  · refine ⟨0, false, (least_out k w h).mono ?_, fun w2 => rleast_out k w2 h⟩
    rintro e w' ⟨rfl, rfl⟩
    exact ⟨rfl, Below.refl _ _⟩
  · exact ⟨leastV k, true, least_in k w (by omega) (by omega), fun w2 => rleast_in k w2 (by omega) (by omega)⟩

theorem msgSizes_walk (k b : Int) (w : World) :
    Calls Try.prog 3 #[.int .i64 k, .int .i64 b] w fun e w' => e = .returned (.bool true) ∧ Below w.heap.size w w' := by
  obtain ⟨n, is, l1, l2⟩ := least_any k w
  obtain ⟨a, c, s, hs⟩ := sizeR_agg k b
  have L1 := Lib.hid l1
  have L2 := Lib.hid l2
  have HS := Lib.hid hs
  clear l1 l2 hs
  go_enter Try.func3, Try.ntmps3
  go_wp2_with fail
  refine L1.out.mono ?_
  rintro e w1 ⟨rfl, hb⟩
  have HB := Lib.hid hb
  clear hb
  go_wp2_with fail
  refine (L2.out _).mono ?_
  rintro e w2 ⟨rfl, rfl⟩
  go_wp2_with fail
  refine (size_any k b _).mono ?_
  rintro e w3 ⟨rfl, hb⟩
  have HB3 := Lib.hid (HB.out.trans (hb.mono HB.out.size))
  clear hb HB
  rw [HS.out]
  go_wp2_with fail
  refine (rsize_any k b _).mono ?_
  rintro e w4 ⟨rfl, hb⟩
  have HB4 := Lib.hid (HB3.out.trans (hb.mono HB3.out.size))
  clear hb HB3
  rw [HS.out]
  go_wp2_with fail
  refine (works_any _).mono ?_
  rintro e w5 ⟨rfl, hb⟩
  have HB5 := Lib.hid (HB4.out.trans (hb.mono HB4.out.size))
  clear hb HB4
  go_wp2_with fail
  go_ret
  exact ⟨rfl, HB5.out⟩

set_option maxRecDepth 100000 in
theorem msgSizes_lifted (os : Os) (started : os.Started) (H : Type) (enc : TypeId × Value → H) :
    ReturnsInHanded {} Try.checked os 3 .any (Rows.msgSizesSpec.pre6 enc Try.prog Try.f3 Rows.msgSizesRow.domain false) (Rows.msgSizesSpec.post enc Try.prog Try.f3 false true false false) := by
  refine returnsInHanded_of_change (C := Try.checked) own started (by kernel_rfl) Try.func3
    (ChangeSpec.witness6 (enc := enc) (C := Try.checked) false ⟨#[], #[.int .i64 0, .int .i64 0], []⟩ 8 (by kernel_rfl) (by kernel_rfl) (by kernel_rfl) (by kernel_rfl)) ?_
  intro W base args ds gs before hval0 hW hcnd _
  have hval : ∀ (j : Nat) t v, Try.f3.params[j]? = some t → args[j]? = some v → Value.okWide Try.prog W .any base t v := hval0
  have hW' := hW
  obtain ⟨p, q, hA0, hV, rfl, hfz, hnd⟩ := hW
  have hA : DataW.TrodAll enc Try.prog W 0 (fun _ => true) true Try.f3.params.toList args.toList ds p := hA0
  rw [Try.params3] at hA hval
  obtain ⟨v0, vs0, d0, ds0, p0, q0, hargs, rfl, rfl, h0, r0⟩ := trodAll_cons hA
  obtain ⟨v1, vs1, d1, ds1, p1, q1, rfl, rfl, rfl, h1, r1⟩ := trodAll_cons r0
  obtain ⟨rfl, rfl, rfl⟩ := trodAll_nil r1
  obtain rfl : args = #[v0, v1] := by cases args; simp_all
  obtain ⟨rfl, rfl⟩ := trodVars_none hV
  obtain ⟨kind, rfl, rfl, rfl, wf_kind⟩ := open_int Try.underlying3 (hval 0 3 v0 rfl rfl) h0
  have bd_kind : -9223372036854775808 ≤ kind ∧ kind ≤ 9223372036854775807 := by simpa [Lit.wf, IntKind.min, IntKind.max, IntKind.signed, IntKind.bits] using wf_kind
  obtain ⟨body, rfl, rfl, rfl, wf_body⟩ := open_int Try.underlying3 (hval 1 3 v1 rfl rfl) h1
  have bd_body : -9223372036854775808 ≤ body ∧ body ≤ 9223372036854775807 := by simpa [Lit.wf, IntKind.min, IntKind.max, IntKind.signed, IntKind.bits] using wf_body
  refine (msgSizes_walk kind body W).mono fun e W' ⟨he, bel⟩ => ?_
  exact ⟨_, he, law_post laidOut (by kernel_rfl) rfl (by kernel_rfl) Try.underlying4 hW' rfl bel⟩

theorem msgSizes_holds : Rows.MsgSizesSaid :=
  OpenClaim.holds_of_wide 3 Try.f3 rfl rfl rfl rfl rfl rfl rfl ⟨rfl, rfl, rfl, rfl, rfl⟩ rfl rfl rfl rfl rfl (by kernel_rfl) Try.func3 (by kernel_rfl)
    (of_decide_eq_true (by kernel_rfl)) (by unfold Func.isWrapper; first | (rw [if_pos (by decide +kernel)]; kernel_rfl) | (rw [if_neg (by decide +kernel)]; exact ⟨rfl, rfl⟩))
    (fun os started H enc _ => msgSizes_lifted os started H enc)

end Go.Proofs.Ytpipeilmolmfpaa
