/-
  MsgBack: for every note and family the law answers true. Conditions: none of its own.
-/
import Derived.Test.YtpipeilmolmfpaaMsgG
set_option linter.unusedVariables false
set_option linter.unusedSimpArgs false
namespace Go.Proofs.Ytpipeilmolmfpaa
open Go.RowKit
open Go.ChangeShapes Go.WideShapes Go.ChangeAt
open Go.ChangeMaps (open_string shut_string)

theorem body_at (c s : UInt8) (d : ByteArray) : (⟨#[c, s]⟩ ++ d : ByteArray).size = d.size + 2 ∧ (⟨#[c, s]⟩ ++ d : ByteArray)[0]! = c ∧ (⟨#[c, s]⟩ ++ d : ByteArray)[1]! = s ∧
    (⟨#[c, s]⟩ ++ d : ByteArray).extract 2 (⟨#[c, s]⟩ ++ d : ByteArray).size = d := by
  obtain ⟨⟨l⟩⟩ := d
  have e : (⟨#[c, s]⟩ ++ (⟨⟨l⟩⟩ : ByteArray) : ByteArray) = ⟨⟨c :: s :: l⟩⟩ := by
    apply ByteArray.ext
    apply Array.ext'
    simp
  rw [e]
  refine ⟨by show (c :: s :: l).length = l.length + 2; simp, rfl, rfl, ?_⟩
  apply ByteArray.ext
  apply Array.ext'
  simp only [ByteArray.data_extract, Array.toList_extract, List.extract_eq_take_drop]
  show ((c :: s :: l).drop 2).take ((c :: s :: l).length - 2) = l
  simp

/-- what is told comes back -/
theorem readnote_back (c s : UInt8) (d : ByteArray) (w : World) (h0 : c ≠ 0) (h1 : d.size ≤ 4075) :
    Calls Try.prog 17 #[.string (⟨#[c, s]⟩ ++ d)] w fun e w' => e = .returned (.tuple #[noteV c s d, .int .i64 0]) ∧ Below w.heap.size w w' := by
  obtain ⟨b0, b1, b2, b3⟩ := body_at c s d
  refine (readnote_any _ (Or.inl rfl) _ w (by omega)).mono fun x w' h => ?_
  rw [if_neg (by omega), b1, b2, b3, if_neg (by rintro (h | h); · omega
                                                · exact h0 h)] at h
  exact h

theorem size_note (n : Nat) (h2 : 2 ≤ n) (h3 : n ≤ 4077) : sizeR 3 n = .agg #[.int .i64 0, .int .u8 0, .int .u8 0] := by
  have hl : leastV 3 = 2 := rfl
  have e : sizeN 3 n = 0 := by
    unfold sizeN
    rw [if_neg (by omega), hl, if_neg (by omega)]
  unfold sizeR
  rw [if_pos e]
  rfl

theorem readR_ref (f : Int) (h1 : 1 ≤ f) (h2 : f ≤ 5) : readR (refS f) = .tuple #[.int .i64 f, .int .i64 0] := by
  rcases fam_five h1 h2 with rfl | rfl | rfl | rfl | rfl <;> kernel_rfl


set_option maxRecDepth 100000 in
set_option maxHeartbeats 1000000 in
theorem msgBack_walk (c s : UInt8) (d : ByteArray) (f : Int) (w : World) (hd : d.size ≤ 1152921504606846976) :
    Calls Try.prog 7 #[.agg #[.int .u8 c.toNat, .int .u8 s.toNat, .string d], .int .i64 f] w fun e w' => e = .returned (.bool true) ∧ Below w.heap.size w w' := by
  by_cases hn : c ≠ 0 ∧ d.size ≤ 4075
  · have hN : ∀ w, Calls Try.prog 15 #[.agg #[.int .u8 c.toNat, .int .u8 s.toNat, .string d]] w (fun x w' => x = .returned (.tuple #[.string (⟨#[c, s]⟩ ++ d), .int .i64 0]) ∧ Below w.heap.size w w') := fun w =>
      (note_any _ (Or.inl rfl) c s d w hd).mono fun x w' h => by
        rw [if_neg hn.1, if_neg (by omega)] at h
        exact h
    have HN := Lib.hid hN
    have HB := Lib.hid (fun w => readnote_back c s d w hn.1 hn.2)
    unfold noteV at HB
    obtain ⟨b0, _⟩ := body_at c s d
    have HS := Lib.hid (size_note (⟨#[c, s]⟩ ++ d : ByteArray).size (by omega) (by omega))
    have hts : (⟨#[c, s]⟩ ++ d : ByteArray).size ≤ 4077 := by omega
    clear hN hn b0
    generalize (⟨#[c, s]⟩ ++ d : ByteArray) = t at HN HB HS hts
    generalize c.toNat = cn at *
    generalize s.toNat = sn at *
    go_enter Try.func7, Try.ntmps7
    go_wp2_with fail
    have HW : Hid (Below w.heap.size w (w.alloc (.cells #[.int .u8 cn, .int .u8 sn, .string d] 30))) := by
      show Below _ _ _
      go_grown
    have HV := Lib.hid (CellsAt.new w #[.int .u8 cn, .int .u8 sn, .string d] 30)
    generalize w.alloc (.cells #[.int .u8 cn, .int .u8 sn, .string d] 30) = W0 at HW HV ⊢
    refine (works_any _).mono ?_
    rintro e w1 ⟨rfl, hb⟩
    have HW1 := Lib.hid (HW.out.trans (hb.mono HW.out.size))
    have HV1 := Lib.hid (HV.out.below hb HV.out.lt)
    clear hb HW HV
    obtain ⟨v0, v1, v2⟩ := HV1.out.c3
    go_wp2_with fail
    refine (HN.out _).mono ?_
    rintro e w2 ⟨rfl, hb⟩
    have HW2 := Lib.hid (HW1.out.trans (hb.mono HW1.out.size))
    have HV2 := Lib.hid (HV1.out.below hb HV1.out.lt)
    clear hb HW1 HV1 v0 v1 v2
    go_wp2_with fail
    refine (HB.out _).mono ?_
    rintro e w3 ⟨rfl, hb⟩
    have HW3 := Lib.hid (HW2.out.trans (hb.mono HW2.out.size))
    have HV3 := Lib.hid (HV2.out.below hb HV2.out.lt)
    clear hb HW2 HV2
    have HW3a := Lib.hid (HW3.out.alloc HW3.out.size (.cells #[.int .u8 cn, .int .u8 sn, .string d] 30))
    have HV3a := Lib.hid (HV3.out.alloc (.cells #[.int .u8 cn, .int .u8 sn, .string d] 30))
    have HX3 := Lib.hid (CellsAt.new w3 #[.int .u8 cn, .int .u8 sn, .string d] 30)
    obtain ⟨x0, x1, x2⟩ := HX3.out.c3
    go_wp2_with fail
    refine (HN.out _).mono ?_
    rintro e w4 ⟨rfl, hb⟩
    have HW4 := Lib.hid (HW3a.out.trans (hb.mono HW3a.out.size))
    have HV4 := Lib.hid (HV3a.out.below hb HV3a.out.lt)
    have HX4 := Lib.hid (HX3.out.below hb HX3.out.lt)
    clear hb HW3 HV3 HW3a HV3a HX3 x0 x1 x2
    obtain ⟨v0, v1, v2⟩ := HV4.out.c3
    obtain ⟨x0, x1, x2⟩ := HX4.out.c3
    go_wp2_with fail
    refine (size_any 3 _ _).mono ?_
    rintro e w5 ⟨rfl, hb⟩
    have HWX := Lib.hid (HW4.out.trans (hb.mono HW4.out.size))
    clear hb HW4 HV4 HX4 v0 v1 v2 x0 x1 x2
    rw [HS.out]
    go_wp2_with fail
    by_cases hf : f < 1 ∨ 5 < f
    · refine (refresh_out f _ hf).mono ?_
      rintro e w6 ⟨rfl, hb⟩
      have HZ := Lib.hid (HWX.out.trans (hb.mono HWX.out.size))
      clear hb
      rw [show ByteArray.empty = ⟨#[]⟩ from rfl]
      rcases hf with hf | hf
      · go_wp2_with fail
        go_ret
        exact ⟨rfl, HZ.out⟩
      · have hf1 : ¬ f < 1 := by omega
        go_wp2_with fail
        go_ret
        exact ⟨rfl, HZ.out⟩
    · refine (refresh_in f _ (by omega) (by omega)).mono ?_
      rintro e w6 ⟨rfl, hb⟩
      have HZ := Lib.hid (HWX.out.trans (hb.mono HWX.out.size))
      clear hb HWX
      have HR := Lib.hid (readR_ref f (by omega) (by omega))
      have hrs : (refS f).size = 4 := rfl
      have hr2 : (refS f).size ≤ 1152921504606846976 := by omega
      generalize refS f = r at HR hrs hr2 ⊢
      go_wp2_with fail
      refine (readrefresh_any r _ hr2).mono ?_
      rintro e w7 ⟨rfl, hb⟩
      have HZ7 := Lib.hid (HZ.out.trans (hb.mono HZ.out.size))
      clear hb HZ
      rw [HR.out]
      go_wp2_with fail
      refine (size_any 5 _ _).mono ?_
      rintro e w8 ⟨rfl, hb⟩
      have HZ8 := Lib.hid (HZ7.out.trans (hb.mono HZ7.out.size))
      clear hb HZ7
      rw [show sizeR 5 4 = .agg #[.int .i64 0, .int .u8 0, .int .u8 0] from by kernel_rfl]
      go_wp2_with fail
      go_ret
      exact ⟨rfl, HZ8.out⟩
  · have hN : ∃ er : Int, er ≠ 0 ∧ ∀ w, Calls Try.prog 15 #[.agg #[.int .u8 c.toNat, .int .u8 s.toNat, .string d]] w (fun x w' => x = .returned (.tuple #[.string ⟨#[]⟩, .int .i64 er]) ∧ Below w.heap.size w w') := by
      by_cases h0 : c = 0
      · exact ⟨2, by decide, fun w => (note_any _ (Or.inl rfl) c s d w hd).mono fun x w' h => by rw [if_pos h0] at h; exact h⟩
      · have h1 : 4075 < d.size := by
          rcases Nat.lt_or_ge 4075 d.size with h | h
          · exact h
          · exact absurd ⟨h0, h⟩ hn
        exact ⟨3, by decide, fun w => (note_any _ (Or.inl rfl) c s d w hd).mono fun x w' h => by rw [if_neg h0, if_pos h1] at h; exact h⟩
    obtain ⟨er, he, hN⟩ := hN
    have e0 : (er == 0) = false := by rw [beq_eq_false_iff_ne]; exact he
    have e0' : (er != 0) = true := by rw [bne, e0]; rfl
    have HN := Lib.hid hN
    clear hN hn he
    generalize c.toNat = cn at *
    generalize s.toNat = sn at *
    go_enter Try.func7, Try.ntmps7
    go_wp2_with fail
    have HW : Hid (Below w.heap.size w (w.alloc (.cells #[.int .u8 cn, .int .u8 sn, .string d] 30))) := by
      show Below _ _ _
      go_grown
    have HV := Lib.hid (CellsAt.new w #[.int .u8 cn, .int .u8 sn, .string d] 30)
    generalize w.alloc (.cells #[.int .u8 cn, .int .u8 sn, .string d] 30) = W0 at HW HV ⊢
    refine (works_any _).mono ?_
    rintro e w1 ⟨rfl, hb⟩
    have HW1 := Lib.hid (HW.out.trans (hb.mono HW.out.size))
    have HV1 := Lib.hid (HV.out.below hb HV.out.lt)
    clear hb HW HV
    obtain ⟨v0, v1, v2⟩ := HV1.out.c3
    go_wp2_with fail
    refine (HN.out _).mono ?_
    rintro e w2 ⟨rfl, hb⟩
    have HWX := Lib.hid (HW1.out.trans (hb.mono HW1.out.size))
    clear hb HW1 HV1 v0 v1 v2
    go_wp2_with fail
    by_cases hf : f < 1 ∨ 5 < f
    · refine (refresh_out f _ hf).mono ?_
      rintro e w6 ⟨rfl, hb⟩
      have HZ := Lib.hid (HWX.out.trans (hb.mono HWX.out.size))
      clear hb
      rw [show ByteArray.empty = ⟨#[]⟩ from rfl]
      rcases hf with hf | hf
      · go_wp2_with fail
        go_ret
        exact ⟨rfl, HZ.out⟩
      · have hf1 : ¬ f < 1 := by omega
        go_wp2_with fail
        go_ret
        exact ⟨rfl, HZ.out⟩
    · refine (refresh_in f _ (by omega) (by omega)).mono ?_
      rintro e w6 ⟨rfl, hb⟩
      have HZ := Lib.hid (HWX.out.trans (hb.mono HWX.out.size))
      clear hb HWX
      have HR := Lib.hid (readR_ref f (by omega) (by omega))
      have hrs : (refS f).size = 4 := rfl
      have hr2 : (refS f).size ≤ 1152921504606846976 := by omega
      generalize refS f = r at HR hrs hr2 ⊢
      go_wp2_with fail
      refine (readrefresh_any r _ hr2).mono ?_
      rintro e w7 ⟨rfl, hb⟩
      have HZ7 := Lib.hid (HZ.out.trans (hb.mono HZ.out.size))
      clear hb HZ
      rw [HR.out]
      go_wp2_with fail
      refine (size_any 5 _ _).mono ?_
      rintro e w8 ⟨rfl, hb⟩
      have HZ8 := Lib.hid (HZ7.out.trans (hb.mono HZ7.out.size))
      clear hb HZ7
      rw [show sizeR 5 4 = .agg #[.int .i64 0, .int .u8 0, .int .u8 0] from by kernel_rfl]
      go_wp2_with fail
      go_ret
      exact ⟨rfl, HZ8.out⟩

set_option maxRecDepth 100000 in
theorem msgBack_lifted (os : Os) (started : os.Started) (H : Type) (enc : TypeId × Value → H) :
    ReturnsInHanded {} Try.checked os 7 .any (Rows.msgBackSpec.pre6 enc Try.prog Try.f7 Rows.msgBackRow.domain false) (Rows.msgBackSpec.post enc Try.prog Try.f7 false true false false) := by
  refine returnsInHanded_of_change_sized (C := Try.checked) own started (by kernel_rfl) Try.func7
    (ChangeSpec.witness6 (enc := enc) (C := Try.checked) false ⟨#[], #[.agg #[.int .u8 0, .int .u8 0, .string .empty], .int .i64 0], []⟩ 8 (by kernel_rfl) (by kernel_rfl) (by kernel_rfl) (by kernel_rfl)) ?_
  intro W base args ds gs before hval0 hW hcnd hsz _
  have hval : ∀ (j : Nat) t v, Try.f7.params[j]? = some t → args[j]? = some v → Value.okWide Try.prog W .any base t v := hval0
  have hW' := hW
  obtain ⟨p, q, hA0, hV, rfl, hfz, hnd⟩ := hW
  have hA : DataW.TrodAll enc Try.prog W 0 (fun _ => true) true Try.f7.params.toList args.toList ds p := hA0
  rw [Try.params7] at hA hval
  obtain ⟨v0, vs0, d0, ds0, p0, q0, hargs, rfl, rfl, h0, r0⟩ := trodAll_cons hA
  obtain ⟨v1, vs1, d1, ds1, p1, q1, rfl, rfl, rfl, h1, r1⟩ := trodAll_cons r0
  obtain ⟨rfl, rfl, rfl⟩ := trodAll_nil r1
  obtain rfl : args = #[v0, v1] := by cases args; simp_all
  obtain ⟨rfl, rfl⟩ := trodVars_none hV
  obtain ⟨c, s, t, x, y, rfl, rfl⟩ := open_note (hval 0 30 v0 rfl rfl) h0
  obtain ⟨fam, rfl, rfl, rfl, wf_fam⟩ := open_int Try.underlying3 (hval 1 3 v1 rfl rfl) h1
  have bd_fam : -9223372036854775808 ≤ fam ∧ fam ≤ 9223372036854775807 := by simpa [Lit.wf, IntKind.min, IntKind.max, IntKind.signed, IntKind.bits] using wf_fam
  have rs_t : t.size ≤ 1152921504606846976 := by have h := sized_string_in hsz (j := 0) rfl rfl Try.underlying30 (i := 2) rfl rfl; have e : reachBytes < 2 ^ 47 := reachBytes_lt; have e2 : t.data.toList.length = t.size := by { rw [Array.length_toList]; rfl }; omega
  refine (msgBack_walk c s t fam W rs_t).mono fun e W' ⟨he, bel⟩ => ?_
  exact ⟨_, he, law_post laidOut (by kernel_rfl) rfl (by kernel_rfl) Try.underlying4 hW' rfl bel⟩

theorem msgBack_holds : Rows.MsgBackSaid :=
  OpenClaim.holds_of_wide 7 Try.f7 rfl rfl rfl rfl rfl rfl rfl ⟨rfl, rfl, rfl, rfl, rfl⟩ rfl rfl rfl rfl rfl (by kernel_rfl) Try.func7 (by kernel_rfl)
    (of_decide_eq_true (by kernel_rfl)) (by unfold Func.isWrapper; first | (rw [if_pos (by decide +kernel)]; kernel_rfl) | (rw [if_neg (by decide +kernel)]; exact ⟨rfl, rfl⟩))
    (fun os started H enc _ => msgBack_lifted os started H enc)

end Go.Proofs.Ytpipeilmolmfpaa
