/-
  MsgTold: for every verdict the law answers true. Conditions: none of its own.
-/
import Derived.Test.YtpipeilmolmfpaaMsgG
set_option linter.unusedVariables false
set_option linter.unusedSimpArgs false
namespace Go.Proofs.Ytpipeilmolmfpaa
open Go.RowKit
open Go.ChangeShapes Go.WideShapes Go.ChangeAt
open Go.ChangeMaps (open_string shut_string)

set_option maxRecDepth 100000 in
theorem msgTold_walk (a : Int) (c s : UInt8) (w : World) :
    Calls Try.prog 5 #[.agg #[.int .i64 a, .int .u8 c.toNat, .int .u8 s.toNat]] w fun e w' => e = .returned (.bool true) ∧ Below w.heap.size w w' := by
  have L1 := Lib.hid (told_any 19 (Or.inl rfl) a c s)
  have L2 := Lib.hid (fun w => note_any 15 (Or.inl rfl) c s ByteArray.empty w (by decide))
  have h0 := c.toNat_lt
  have h1 := s.toNat_lt
  have hc0 : (c = 0) ↔ c.toNat = 0 := ⟨fun h => by rw [h]; rfl, fun h => UInt8.toNat_inj.1 h⟩
  go_enter Try.func5, Try.ntmps5
  go_wp2_with fail
  have HW : Hid (Below w.heap.size w (w.alloc (.cells #[.int .i64 a, .int .u8 c.toNat, .int .u8 s.toNat] 25))) := by
    show Below _ _ _
    go_grown
  have HV := Lib.hid (CellsAt.new w #[.int .i64 a, .int .u8 c.toNat, .int .u8 s.toNat] 25)
  generalize w.alloc (.cells #[.int .i64 a, .int .u8 c.toNat, .int .u8 s.toNat] 25) = W0 at HW HV ⊢
  refine (works_any _).mono ?_
  rintro e w1 ⟨rfl, hb⟩
  have HW1 := Lib.hid (HW.out.trans (hb.mono HW.out.size))
  have HV1 := Lib.hid (HV.out.below hb HV.out.lt)
  clear hb HW HV
  obtain ⟨v0, v1, v2⟩ := HV1.out.c3
  go_wp2_with fail
  refine (L1.out _).mono ?_
  rintro e w2 ⟨rfl, hb⟩
  have HW2 := Lib.hid (HW1.out.trans (hb.mono HW1.out.size))
  have HV2 := Lib.hid (HV1.out.below hb HV1.out.lt)
  clear hb HW1 HV1 v0 v1 v2
  by_cases ha : a = 3
  · rw [if_pos ha]
    subst ha
    unfold noteV
    have HW2a := Lib.hid (HW2.out.alloc HW2.out.size (.cells #[.int .u8 c.toNat, .int .u8 s.toNat, .string ByteArray.empty] 30))
    have HV2a := Lib.hid (HV2.out.alloc (.cells #[.int .u8 c.toNat, .int .u8 s.toNat, .string ByteArray.empty] 30))
    have HX2 := Lib.hid (CellsAt.new w2 #[.int .u8 c.toNat, .int .u8 s.toNat, .string ByteArray.empty] 30)
    obtain ⟨v0, v1, v2⟩ := HV2a.out.c3
    obtain ⟨x0, x1, x2⟩ := HX2.out.c3
    go_wp2_with fail
    refine (L2.out _).mono ?_
    rintro e w3 ⟨rfl, hb⟩
    have HW3 := Lib.hid (HW2a.out.trans (hb.mono HW2a.out.size))
    have HV3 := Lib.hid (HV2a.out.below hb HV2a.out.lt)
    have HX3 := Lib.hid (HX2.out.below hb HX2.out.lt)
    clear hb HW2 HV2 HW2a HV2a HX2 v0 v1 v2 x0 x1 x2
    obtain ⟨v0, v1, v2⟩ := HV3.out.c3
    obtain ⟨x0, x1, x2⟩ := HX3.out.c3
    by_cases hc : c = 0
    · rw [if_pos hc]
      have e0 : (((c.toNat : Nat) : Int) == 0) = true := by rw [hc]; rfl
      clear hc hc0
      generalize c.toNat = x at *
      go_wp2_with fail
      go_ret
      exact ⟨rfl, HW3.out⟩
    · rw [if_neg hc, if_neg (by decide)]
      have e0 : (((c.toNat : Nat) : Int) == 0) = false := by
        rw [beq_eq_false_iff_ne]
        intro h
        exact hc (hc0.2 (by omega))
      have e1 : (0 : Int) < ((c.toNat : Nat) : Int) := by
        have : ¬ c.toNat = 0 := fun h => hc (hc0.2 h)
        omega
      have e2 : (⟨#[c, s]⟩ ++ ByteArray.empty : ByteArray).size = 2 := rfl
      clear hc hc0
      generalize (⟨#[c, s]⟩ ++ ByteArray.empty : ByteArray) = t at e2 ⊢
      generalize c.toNat = x at *
      go_wp2_with fail
      go_ret
      exact ⟨rfl, HW3.out⟩
  · rw [if_neg ha]
    have e0 : (a == 3) = false := by rw [beq_eq_false_iff_ne]; exact ha
    have e0' : (a != 3) = true := by rw [bne, e0]; rfl
    clear ha
    rw [show noteV 0 0 ByteArray.empty = .agg #[.int .u8 0, .int .u8 0, .string ByteArray.empty] from rfl]
    have HW2a := Lib.hid (HW2.out.alloc HW2.out.size (.cells #[.int .u8 0, .int .u8 0, .string ByteArray.empty] 30))
    have HV2a := Lib.hid (HV2.out.alloc (.cells #[.int .u8 0, .int .u8 0, .string ByteArray.empty] 30))
    have HX2 := Lib.hid (CellsAt.new w2 #[.int .u8 0, .int .u8 0, .string ByteArray.empty] 30)
    obtain ⟨v0, v1, v2⟩ := HV2a.out.c3
    obtain ⟨x0, x1, x2⟩ := HX2.out.c3
    go_wp2_with fail
    go_ret
    exact ⟨rfl, HW2a.out⟩

set_option maxRecDepth 100000 in
theorem msgTold_lifted (os : Os) (started : os.Started) (H : Type) (enc : TypeId × Value → H) :
    ReturnsInHanded {} Try.checked os 5 .any (Rows.msgToldSpec.pre6 enc Try.prog Try.f5 Rows.msgToldRow.domain false) (Rows.msgToldSpec.post enc Try.prog Try.f5 false true false false) := by
  refine returnsInHanded_of_change (C := Try.checked) own started (by kernel_rfl) Try.func5
    (ChangeSpec.witness6 (enc := enc) (C := Try.checked) false ⟨#[], #[.agg #[.int .i64 0, .int .u8 0, .int .u8 0]], []⟩ 8 (by kernel_rfl) (by kernel_rfl) (by kernel_rfl) (by kernel_rfl)) ?_
  intro W base args ds gs before hval0 hW hcnd _
  have hval : ∀ (j : Nat) t v, Try.f5.params[j]? = some t → args[j]? = some v → Value.okWide Try.prog W .any base t v := hval0
  have hW' := hW
  obtain ⟨p, q, hA0, hV, rfl, hfz, hnd⟩ := hW
  have hA : DataW.TrodAll enc Try.prog W 0 (fun _ => true) true Try.f5.params.toList args.toList ds p := hA0
  rw [Try.params5] at hA hval
  obtain ⟨v0, vs0, d0, ds0, p0, q0, hargs, rfl, rfl, h0, r0⟩ := trodAll_cons hA
  obtain ⟨rfl, rfl, rfl⟩ := trodAll_nil r0
  obtain rfl : args = #[v0] := by cases args; simp_all
  obtain ⟨rfl, rfl⟩ := trodVars_none hV
  obtain ⟨a, c2, s2, rfl⟩ := open_verd (hval 0 25 v0 rfl rfl) h0
  refine (msgTold_walk a c2 s2 W).mono fun e W' ⟨he, bel⟩ => ?_
  exact ⟨_, he, law_post laidOut (by kernel_rfl) rfl (by kernel_rfl) Try.underlying4 hW' rfl bel⟩

theorem msgTold_holds : Rows.MsgToldSaid :=
  OpenClaim.holds_of_wide 5 Try.f5 rfl rfl rfl rfl rfl rfl rfl ⟨rfl, rfl, rfl, rfl, rfl⟩ rfl rfl rfl rfl rfl (by kernel_rfl) Try.func5 (by kernel_rfl)
    (of_decide_eq_true (by kernel_rfl)) (by unfold Func.isWrapper; first | (rw [if_pos (by decide +kernel)]; kernel_rfl) | (rw [if_neg (by decide +kernel)]; exact ⟨rfl, rfl⟩))
    (fun os started H enc _ => msgTold_lifted os started H enc)

end Go.Proofs.Ytpipeilmolmfpaa
