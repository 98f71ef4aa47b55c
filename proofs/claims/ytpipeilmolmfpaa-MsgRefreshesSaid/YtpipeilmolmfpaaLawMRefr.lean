/-
  MsgRefreshes: for every family and bytes the law answers true. Conditions: none of its own.
-/
import Derived.Test.YtpipeilmolmfpaaMsgF
import Derived.SizedLaws
set_option linter.unusedVariables false
set_option linter.unusedSimpArgs false
namespace Go.Proofs.Ytpipeilmolmfpaa
open Go.RowKit
open Go.ChangeShapes Go.WideShapes Go.ChangeAt
open Go.ChangeMaps (open_string shut_string)

theorem readR_two (b : ByteArray) : ∃ x g : Int, readR b = .tuple #[.int .i64 x, .int .i64 g] := by
  unfold readR
  split
  · split
    · exact ⟨_, _, rfl⟩
    · exact ⟨_, _, rfl⟩
  · exact ⟨_, _, rfl⟩

theorem refresh_two (f : Int) : ∃ (s : ByteArray) (e : Int), (∀ w, Calls Try.prog 21 #[.int .i64 f] w (fun x w' => x = .returned (.tuple #[.string s, .int .i64 e]) ∧ Below w.heap.size w w')) ∧
    ∀ w, Calls Try.prog 22 #[.int .i64 f] w (fun x w' => x = .returned (.tuple #[.string s, .int .i64 e]) ∧ Below w.heap.size w w') := by
  by_cases h : f < 1 ∨ 5 < f
  · exact ⟨_, _, fun w => refresh_out f w h, fun w => rrefresh_out f w h⟩
  · exact ⟨_, _, fun w => refresh_in f w (by omega) (by omega), fun w => rrefresh_in f w (by omega) (by omega)⟩

theorem msgRefreshes_walk (f : Int) (b : ByteArray) (w : World) (hb : b.size ≤ 1152921504606846976) :
    Calls Try.prog 6 #[.int .i64 f, .string b] w fun e w' => e = .returned (.bool true) ∧ Below w.heap.size w w' := by
  obtain ⟨s, er, l1, l2⟩ := refresh_two f
  obtain ⟨x, g, hr⟩ := readR_two b
  have L1 := Lib.hid l1
  have L2 := Lib.hid l2
  have HR := Lib.hid hr
  clear l1 l2 hr
  go_enter Try.func6, Try.ntmps6
  go_wp2_with fail
  refine (L1.out _).mono ?_
  rintro e w1 ⟨rfl, hb1⟩
  have HB := Lib.hid hb1
  clear hb1
  go_wp2_with fail
  refine (L2.out _).mono ?_
  rintro e w2 ⟨rfl, hb2⟩
  have HB2 := Lib.hid (HB.out.trans (hb2.mono HB.out.size))
  clear hb2 HB
  go_wp2_with fail
  refine (readrefresh_any b _ hb).mono ?_
  rintro e w3 ⟨rfl, hb3⟩
  have HB3 := Lib.hid (HB2.out.trans (hb3.mono HB2.out.size))
  clear hb3 HB2
  rw [HR.out]
  go_wp2_with fail
  refine (rreadrefresh_any b _ hb).mono ?_
  rintro e w4 ⟨rfl, hb4⟩
  have HB4 := Lib.hid (HB3.out.trans (hb4.mono HB3.out.size))
  clear hb4 HB3
  rw [HR.out]
  go_wp2_with fail
  refine (works_any _).mono ?_
  rintro e w5 ⟨rfl, hb5⟩
  have HB5 := Lib.hid (HB4.out.trans (hb5.mono HB4.out.size))
  clear hb5 HB4
  go_wp2_with fail
  go_ret
  exact ⟨rfl, HB5.out⟩

set_option maxRecDepth 100000 in
theorem msgRefreshes_lifted (os : Os) (started : os.Started) (H : Type) (enc : TypeId × Value → H) :
    ReturnsInHanded {} Try.checked os 6 .any (Rows.msgRefreshesSpec.pre6 enc Try.prog Try.f6 Rows.msgRefreshesRow.domain false) (Rows.msgRefreshesSpec.post enc Try.prog Try.f6 false true false false) := by
  refine returnsInHanded_of_change_sized (C := Try.checked) own started (by kernel_rfl) Try.func6
    (ChangeSpec.witness6 (enc := enc) (C := Try.checked) false ⟨#[], #[.int .i64 0, .string .empty], []⟩ 8 (by kernel_rfl) (by kernel_rfl) (by kernel_rfl) (by kernel_rfl)) ?_
  intro W base args ds gs before hval0 hW hcnd hsz _
  have hval : ∀ (j : Nat) t v, Try.f6.params[j]? = some t → args[j]? = some v → Value.okWide Try.prog W .any base t v := hval0
  have hW' := hW
  obtain ⟨p, q, hA0, hV, rfl, hfz, hnd⟩ := hW
  have hA : DataW.TrodAll enc Try.prog W 0 (fun _ => true) true Try.f6.params.toList args.toList ds p := hA0
  rw [Try.params6] at hA hval
  obtain ⟨v0, vs0, d0, ds0, p0, q0, hargs, rfl, rfl, h0, r0⟩ := trodAll_cons hA
  obtain ⟨v1, vs1, d1, ds1, p1, q1, rfl, rfl, rfl, h1, r1⟩ := trodAll_cons r0
  obtain ⟨rfl, rfl, rfl⟩ := trodAll_nil r1
  obtain rfl : args = #[v0, v1] := by cases args; simp_all
  obtain ⟨rfl, rfl⟩ := trodVars_none hV
  obtain ⟨fam, rfl, rfl, rfl, wf_fam⟩ := open_int Try.underlying3 (hval 0 3 v0 rfl rfl) h0
  have bd_fam : -9223372036854775808 ≤ fam ∧ fam ≤ 9223372036854775807 := by simpa [Lit.wf, IntKind.min, IntKind.max, IntKind.signed, IntKind.bits] using wf_fam
  obtain ⟨b, rfl, rfl, rfl, hs_b⟩ := open_string Try.underlying9 (hval 1 9 v1 rfl rfl) h1
  have rs_b : b.size ≤ 140737488351232 := by have h := sized_string hsz (j := 1) rfl rfl; simpa [reachBytes] using h
  refine (msgRefreshes_walk fam b W (by omega)).mono fun e W' ⟨he, bel⟩ => ?_
  exact ⟨_, he, law_post laidOut (by kernel_rfl) rfl (by kernel_rfl) Try.underlying4 hW' rfl bel⟩

theorem msgRefreshes_holds : Rows.MsgRefreshesSaid :=
  OpenClaim.holds_of_wide 6 Try.f6 rfl rfl rfl rfl rfl rfl rfl ⟨rfl, rfl, rfl, rfl, rfl⟩ rfl rfl rfl rfl rfl (by kernel_rfl) Try.func6 (by kernel_rfl)
    (of_decide_eq_true (by kernel_rfl)) (by unfold Func.isWrapper; first | (rw [if_pos (by decide +kernel)]; kernel_rfl) | (rw [if_neg (by decide +kernel)]; exact ⟨rfl, rfl⟩))
    (fun os started H enc _ => msgRefreshes_lifted os started H enc)

end Go.Proofs.Ytpipeilmolmfpaa
