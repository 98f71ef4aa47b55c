/-
  ReachPairs and ReachPaired: for every family and pair of numbers the laws answer true. Conditions: none of their own.
-/
import Derived.Test.YtocbacpbckejdaaNlV
set_option linter.unusedVariables false
set_option linter.unusedSimpArgs false
namespace Go.Proofs.Ytocbacpbckejdaa
open Go.RowKit
open Go.ChangeShapes Go.WideShapes Go.ChangeAt
open Go.ChangeMaps (open_string shut_string)

theorem afis_any (f : Int) : ∃ (a s : Int) (b : Bool), (∀ w, Calls Try.prog 9 #[.int .i64 f] w (fun e w' => e = .returned (.tuple #[.int .u16 a, .int .u8 s, .bool b]) ∧ Below w.heap.size w w')) ∧
    (∀ w, Calls Try.prog 10 #[.int .i64 f] w (fun e w' => e = .returned (.tuple #[.int .u16 a, .int .u8 s, .bool b]) ∧ w' = w)) := by
  by_cases h : 1 ≤ f ∧ f ≤ 5
  · exact ⟨_, _, _, fun w => afi_in f w h.1 h.2, fun w => rafi_in f w h.1 h.2⟩
  · exact ⟨_, _, _, fun w => afi_out f w (by omega), fun w => rafi_out f w (by omega)⟩
set_option maxHeartbeats 4000000 in
theorem pairs_walk (f a s : Int) (w : World) : Calls Try.prog 3 #[.int .i64 f, .int .u16 a, .int .u8 s] w fun e w' => e = .returned (.bool true) ∧ Below w.heap.size w w' := by
  obtain ⟨x, y, b, h1, h2⟩ := afis_any f
  have H1 := Lib.hid h1
  have H2 := Lib.hid h2
  have ex : (x == x) = true := by simp
  have ey : (y == y) = true := by simp
  have eb : (b == b) = true := by simp
  obtain ⟨z, hz⟩ : ∃ z, z = famOf a s := ⟨_, rfl⟩
  have HF : Hid (∀ w, Calls Try.prog 11 #[.int .u16 a, .int .u8 s] w fun e w' => e = .returned (.int .i64 z) ∧ Below w.heap.size w w') := fun w => by rw [hz]; exact fam_any a s w
  have HR : Hid (∀ w, Calls Try.prog 12 #[.int .u16 a, .int .u8 s] w fun e w' => e = .returned (.int .i64 z) ∧ w' = w) := fun w => by rw [hz]; exact rfam_any a s w
  have ez : (z == z) = true := by simp
  clear h1 h2 hz
  go_enter Try.func3, Try.ntmps3
  go_wp2_with fail
  refine (H1.out _).mono ?_
  rintro e w1 ⟨rfl, hb⟩
  have HB1 := Lib.hid hb
  clear hb
  go_wp2_with fail
  refine (H2.out _).mono ?_
  rintro e w2 ⟨rfl, hw⟩
  rw [hw]
  clear hw
  go_wp2_with fail
  refine (HF.out _).mono ?_
  rintro e w3 ⟨rfl, hb⟩
  have HB3 := Lib.hid (HB1.out.trans (hb.mono HB1.out.size))
  clear hb HB1
  go_wp2_with fail
  refine (HR.out _).mono ?_
  rintro e w4 ⟨rfl, hw⟩
  rw [hw]
  clear hw
  go_wp2_with fail
  refine (works_any _).mono ?_
  rintro e w5 ⟨rfl, hb⟩
  have HB5 := Lib.hid (HB3.out.trans (hb.mono HB3.out.size))
  clear hb HB3
  go_wp2_with fail
  go_ret
  exact ⟨rfl, HB5.out⟩
theorem famOf_back (a s : Int) : famOf a s = 0 ∨ (1 ≤ famOf a s ∧ famOf a s ≤ 5 ∧ afiV (famOf a s) = a ∧ safiV (famOf a s) = s) := by
  unfold famOf
  repeat' split
  all_goals first | exact Or.inl rfl | (rename_i h; right; rw [h.1, h.2]; decide)
set_option maxHeartbeats 4000000 in
theorem paired_walk (a s : Int) (w : World) : Calls Try.prog 4 #[.int .u16 a, .int .u8 s] w fun e w' => e = .returned (.bool true) ∧ Below w.heap.size w w' := by
  have hF := fam_any a s
  rcases famOf_back a s with h | ⟨h1, h2, h3, h4⟩
  · rw [h] at hF
    have HF := Lib.hid hF
    clear hF h
    go_enter Try.func4, Try.ntmps4
    go_wp2_with fail
    refine (HF.out _).mono ?_
    rintro e w1 ⟨rfl, hb⟩
    have HB1 := Lib.hid hb
    clear hb
    go_wp2_with fail
    refine (afi_out 0 _ (by omega)).mono ?_
    rintro e w2 ⟨rfl, hb⟩
    have HB2 := Lib.hid (HB1.out.trans (hb.mono HB1.out.size))
    clear hb HB1
    go_wp2_with fail
    refine (works_any _).mono ?_
    rintro e w5 ⟨rfl, hb⟩
    have HB5 := Lib.hid (HB2.out.trans (hb.mono HB2.out.size))
    clear hb HB2
    go_wp2_with fail
    go_ret
    exact ⟨rfl, HB5.out⟩
  · have HF := Lib.hid hF
    have HA := Lib.hid (fun w => afi_in (famOf a s) w h1 h2)
    rw [h3, h4] at HA
    generalize famOf a s = z at h1 h2 HF HA
    have e0 : (z == 0) = false := beq_eq_false_iff_ne.2 (by omega)
    have ea : (a == a) = true := by simp
    have es : (s == s) = true := by simp
    clear hF h3 h4
    go_enter Try.func4, Try.ntmps4
    go_wp2_with fail
    refine (HF.out _).mono ?_
    rintro e w1 ⟨rfl, hb⟩
    have HB1 := Lib.hid hb
    clear hb
    go_wp2_with fail
    refine (HA.out _).mono ?_
    rintro e w2 ⟨rfl, hb⟩
    have HB2 := Lib.hid (HB1.out.trans (hb.mono HB1.out.size))
    clear hb HB1
    go_wp2_with fail
    refine (works_any _).mono ?_
    rintro e w5 ⟨rfl, hb⟩
    have HB5 := Lib.hid (HB2.out.trans (hb.mono HB2.out.size))
    clear hb HB2
    go_wp2_with fail
    go_ret
    exact ⟨rfl, HB5.out⟩

set_option maxRecDepth 100000 in
theorem reachPairs_lifted (os : Os) (started : os.Started) (H : Type) (enc : TypeId × Value → H) :
    ReturnsInHanded {} Try.checked os 3 .any (Rows.reachPairsSpec.pre6 enc Try.prog Try.f3 Rows.reachPairsRow.domain false) (Rows.reachPairsSpec.post enc Try.prog Try.f3 false true false false) := by
  refine returnsInHanded_of_change (C := Try.checked) own started (by kernel_rfl) Try.func3
    (ChangeSpec.witness6 (enc := enc) (C := Try.checked) false ⟨#[], #[.int .i64 1, .int .u16 1, .int .u8 1], []⟩ 8 (by kernel_rfl) (by kernel_rfl) (by kernel_rfl) (by kernel_rfl)) ?_
  intro W base args ds gs before hval0 hW hcnd _
  have hval : ∀ (j : Nat) t v, Try.f3.params[j]? = some t → args[j]? = some v → Value.okWide Try.prog W .any base t v := hval0
  have hW' := hW
  obtain ⟨p, q, hA0, hV, rfl, hfz, hnd⟩ := hW
  have hA : DataW.TrodAll enc Try.prog W 0 (fun _ => true) true Try.f3.params.toList args.toList ds p := hA0
  rw [Try.params3] at hA hval
  obtain ⟨v0, vs0, d0, ds0, p0, q0, hargs, rfl, rfl, h0, r0⟩ := trodAll_cons hA
  obtain ⟨v1, vs1, d1, ds1, p1, q1, rfl, rfl, rfl, h1, r1⟩ := trodAll_cons r0
  obtain ⟨v2, vs2, d2, ds2, p2, q2, rfl, rfl, rfl, h2, r2⟩ := trodAll_cons r1
  obtain ⟨rfl, rfl, rfl⟩ := trodAll_nil r2
  obtain rfl : args = #[v0, v1, v2] := by cases args; simp_all
  obtain ⟨rfl, rfl⟩ := trodVars_none hV
  obtain ⟨fam, rfl, rfl, rfl, wf_fam⟩ := open_int Try.underlying3 (hval 0 3 v0 rfl rfl) h0
  have bd_fam : -9223372036854775808 ≤ fam ∧ fam ≤ 9223372036854775807 := by simpa [Lit.wf, IntKind.min, IntKind.max, IntKind.signed, IntKind.bits] using wf_fam
  obtain ⟨afi, rfl, rfl, rfl, wf_afi⟩ := open_int Try.underlying22 (hval 1 22 v1 rfl rfl) h1
  have bd_afi : 0 ≤ afi ∧ afi ≤ 65535 := by simpa [Lit.wf, IntKind.min, IntKind.max, IntKind.signed, IntKind.bits] using wf_afi
  obtain ⟨safi, rfl, rfl, rfl, wf_safi⟩ := open_int Try.underlying5 (hval 2 5 v2 rfl rfl) h2
  have bd_safi : 0 ≤ safi ∧ safi ≤ 255 := by simpa [Lit.wf, IntKind.min, IntKind.max, IntKind.signed, IntKind.bits] using wf_safi
  refine (pairs_walk fam afi safi W).mono fun e W' ⟨he, bel⟩ => ?_
  exact ⟨_, he, law_post laidOut (by kernel_rfl) rfl (by kernel_rfl) Try.underlying4 hW' rfl bel⟩

theorem reachPairs_holds : Rows.ReachPairsSaid :=
  OpenClaim.holds_of_wide 3 Try.f3 rfl rfl rfl rfl rfl rfl rfl ⟨rfl, rfl, rfl, rfl, rfl⟩ rfl rfl rfl rfl rfl (by kernel_rfl) Try.func3 (by kernel_rfl)
    (of_decide_eq_true (by kernel_rfl)) (by unfold Func.isWrapper; first | (rw [if_pos (by decide +kernel)]; kernel_rfl) | (rw [if_neg (by decide +kernel)]; exact ⟨rfl, rfl⟩))
    (fun os started H enc _ => reachPairs_lifted os started H enc)
set_option maxRecDepth 100000 in
theorem reachPaired_lifted (os : Os) (started : os.Started) (H : Type) (enc : TypeId × Value → H) :
    ReturnsInHanded {} Try.checked os 4 .any (Rows.reachPairedSpec.pre6 enc Try.prog Try.f4 Rows.reachPairedRow.domain false) (Rows.reachPairedSpec.post enc Try.prog Try.f4 false true false false) := by
  refine returnsInHanded_of_change (C := Try.checked) own started (by kernel_rfl) Try.func4
    (ChangeSpec.witness6 (enc := enc) (C := Try.checked) false ⟨#[], #[.int .u16 1, .int .u8 1], []⟩ 8 (by kernel_rfl) (by kernel_rfl) (by kernel_rfl) (by kernel_rfl)) ?_
  intro W base args ds gs before hval0 hW hcnd _
  have hval : ∀ (j : Nat) t v, Try.f4.params[j]? = some t → args[j]? = some v → Value.okWide Try.prog W .any base t v := hval0
  have hW' := hW
  obtain ⟨p, q, hA0, hV, rfl, hfz, hnd⟩ := hW
  have hA : DataW.TrodAll enc Try.prog W 0 (fun _ => true) true Try.f4.params.toList args.toList ds p := hA0
  rw [Try.params4] at hA hval
  obtain ⟨v0, vs0, d0, ds0, p0, q0, hargs, rfl, rfl, h0, r0⟩ := trodAll_cons hA
  obtain ⟨v1, vs1, d1, ds1, p1, q1, rfl, rfl, rfl, h1, r1⟩ := trodAll_cons r0
  obtain ⟨rfl, rfl, rfl⟩ := trodAll_nil r1
  obtain rfl : args = #[v0, v1] := by cases args; simp_all
  obtain ⟨rfl, rfl⟩ := trodVars_none hV
  obtain ⟨afi, rfl, rfl, rfl, wf_afi⟩ := open_int Try.underlying22 (hval 0 22 v0 rfl rfl) h0
  have bd_afi : 0 ≤ afi ∧ afi ≤ 65535 := by simpa [Lit.wf, IntKind.min, IntKind.max, IntKind.signed, IntKind.bits] using wf_afi
  obtain ⟨safi, rfl, rfl, rfl, wf_safi⟩ := open_int Try.underlying5 (hval 1 5 v1 rfl rfl) h1
  have bd_safi : 0 ≤ safi ∧ safi ≤ 255 := by simpa [Lit.wf, IntKind.min, IntKind.max, IntKind.signed, IntKind.bits] using wf_safi
  refine (paired_walk afi safi W).mono fun e W' ⟨he, bel⟩ => ?_
  exact ⟨_, he, law_post laidOut (by kernel_rfl) rfl (by kernel_rfl) Try.underlying4 hW' rfl bel⟩

theorem reachPaired_holds : Rows.ReachPairedSaid :=
  OpenClaim.holds_of_wide 4 Try.f4 rfl rfl rfl rfl rfl rfl rfl ⟨rfl, rfl, rfl, rfl, rfl⟩ rfl rfl rfl rfl rfl (by kernel_rfl) Try.func4 (by kernel_rfl)
    (of_decide_eq_true (by kernel_rfl)) (by unfold Func.isWrapper; first | (rw [if_pos (by decide +kernel)]; kernel_rfl) | (rw [if_neg (by decide +kernel)]; exact ⟨rfl, rfl⟩))
    (fun os started H enc _ => reachPaired_lifted os started H enc)
end Go.Proofs.Ytocbacpbckejdaa
