/-
  MsgNotes: for every note, bytes and verdict the law answers true. Conditions: none of its own.
-/
import Derived.Test.YtpipeilmolmfpaaMsgG
set_option linter.unusedVariables false
set_option linter.unusedSimpArgs false
namespace Go.Proofs.Ytpipeilmolmfpaa
open Go.RowKit
open Go.ChangeShapes Go.WideShapes Go.ChangeAt
open Go.ChangeMaps (open_string shut_string)

theorem note_two (c s : UInt8) (d : ByteArray) (hd : d.size ≤ 1152921504606846976) : ∃ (t : ByteArray) (e : Int), ∀ fn, (fn = 15 ∨ fn = 16) → ∀ w,
    Calls Try.prog fn #[.agg #[.int .u8 c.toNat, .int .u8 s.toNat, .string d]] w (fun x w' => x = .returned (.tuple #[.string t, .int .i64 e]) ∧ Below w.heap.size w w') := by
  by_cases h0 : c = 0
  · refine ⟨ByteArray.empty, 2, fun fn hfn w => (note_any fn hfn c s d w hd).mono fun x w' h => ?_⟩
    rw [if_pos h0] at h
    exact h
  · by_cases h1 : 4075 < d.size
    · refine ⟨ByteArray.empty, 3, fun fn hfn w => (note_any fn hfn c s d w hd).mono fun x w' h => ?_⟩
      rw [if_neg h0, if_pos h1] at h
      exact h
    · refine ⟨⟨#[c, s]⟩ ++ d, 0, fun fn hfn w => (note_any fn hfn c s d w hd).mono fun x w' h => ?_⟩
      rw [if_neg h0, if_neg h1] at h
      exact h

theorem readnote_two (b : ByteArray) (hb : b.size ≤ 1152921504606846976) : ∃ (x y : UInt8) (d : ByteArray) (g : Int), ∀ fn, (fn = 17 ∨ fn = 18) → ∀ w,
    Calls Try.prog fn #[.string b] w (fun e w' => e = .returned (.tuple #[.agg #[.int .u8 x.toNat, .int .u8 y.toNat, .string d], .int .i64 g]) ∧ Below w.heap.size w w') := by
  by_cases h0 : 4077 < b.size
  · refine ⟨0, 0, ByteArray.empty, 3, fun fn hfn w => (readnote_any fn hfn b w hb).mono fun x w' h => ?_⟩
    rw [if_pos h0] at h
    exact h
  · by_cases h1 : b.size < 2 ∨ b[0]! = 0
    · refine ⟨0, 0, ByteArray.empty, 4, fun fn hfn w => (readnote_any fn hfn b w hb).mono fun x w' h => ?_⟩
      rw [if_neg h0, if_pos h1] at h
      exact h
    · refine ⟨b[0]!, b[1]!, b.extract 2 b.size, 0, fun fn hfn w => (readnote_any fn hfn b w hb).mono fun x w' h => ?_⟩
      rw [if_neg h0, if_neg h1] at h
      exact h

theorem told_two (a : Int) (c s : UInt8) : ∃ (x y : UInt8) (d : ByteArray) (k : Bool), ∀ fn, (fn = 19 ∨ fn = 20) → ∀ w,
    Calls Try.prog fn #[.agg #[.int .i64 a, .int .u8 c.toNat, .int .u8 s.toNat]] w (fun e w' => e = .returned (.tuple #[.agg #[.int .u8 x.toNat, .int .u8 y.toNat, .string d], .bool k]) ∧ Below w.heap.size w w') := by
  by_cases h0 : a = 3
  · refine ⟨c, s, ByteArray.empty, true, fun fn hfn w => (told_any fn hfn a c s w).mono fun x w' h => ?_⟩
    rw [if_pos h0] at h
    exact h
  · refine ⟨0, 0, ByteArray.empty, false, fun fn hfn w => (told_any fn hfn a c s w).mono fun x w' h => ?_⟩
    rw [if_neg h0] at h
    exact h

set_option maxRecDepth 100000 in
theorem msgNotes_walk (c s : UInt8) (d b : ByteArray) (a : Int) (c2 s2 : UInt8) (w : World) (hd : d.size ≤ 1152921504606846976) (hb : b.size ≤ 1152921504606846976) :
    Calls Try.prog 4 #[.agg #[.int .u8 c.toNat, .int .u8 s.toNat, .string d], .string b, .agg #[.int .i64 a, .int .u8 c2.toNat, .int .u8 s2.toNat]] w fun e w' => e = .returned (.bool true) ∧ Below w.heap.size w w' := by
  obtain ⟨t, er, l1⟩ := note_two c s d hd
  obtain ⟨x, y, z, g, l2⟩ := readnote_two b hb
  obtain ⟨x3, y3, z3, k3, l3⟩ := told_two a c2 s2
  have L1 := Lib.hid l1
  have L2 := Lib.hid l2
  have L3 := Lib.hid l3
  clear l1 l2 l3
  generalize c.toNat = cn at L1 ⊢
  generalize s.toNat = sn at L1 ⊢
  generalize c2.toNat = c2n at L3 ⊢
  generalize s2.toNat = s2n at L3 ⊢
  generalize x.toNat = xn at L2
  generalize y.toNat = yn at L2
  generalize x3.toNat = x3n at L3
  generalize y3.toNat = y3n at L3
  go_enter Try.func4, Try.ntmps4
  go_wp2_with fail
  have HW : Hid (Below w.heap.size w ((w.alloc (.cells #[.int .u8 cn, .int .u8 sn, .string d] 30)).alloc (.cells #[.int .i64 a, .int .u8 c2n, .int .u8 s2n] 25))) := by
    show Below _ _ _
    go_grown
  have HN := Lib.hid ((CellsAt.new w #[.int .u8 cn, .int .u8 sn, .string d] 30).alloc (.cells #[.int .i64 a, .int .u8 c2n, .int .u8 s2n] 25))
  have HV := Lib.hid (CellsAt.new (w.alloc (.cells #[.int .u8 cn, .int .u8 sn, .string d] 30)) #[.int .i64 a, .int .u8 c2n, .int .u8 s2n] 25)
  have hNlt := HN.out.lt
  have hVlt := HV.out.lt
  have hsz : (w.alloc (.cells #[.int .u8 cn, .int .u8 sn, .string d] 30)).heap.size = w.heap.size + 1 := by simp
  rw [hsz] at HV hVlt
  generalize (w.alloc (.cells #[.int .u8 cn, .int .u8 sn, .string d] 30)).alloc (.cells #[.int .i64 a, .int .u8 c2n, .int .u8 s2n] 25) = W0 at HW HN HV hNlt hVlt ⊢
  clear hsz
  refine (L1.out _ (Or.inl rfl) _).mono ?_
  rintro e w1 ⟨rfl, hb⟩
  have HW1 := Lib.hid (HW.out.trans (hb.mono HW.out.size))
  have HN1 := Lib.hid (HN.out.below hb hNlt)
  have HV1 := Lib.hid (HV.out.below hb hVlt)
  clear hb HW HN HV hNlt hVlt
  obtain ⟨n0, n1, n2⟩ := HN1.out.c3
  go_wp2_with fail
  refine (L1.out _ (Or.inr rfl) _).mono ?_
  rintro e w2 ⟨rfl, hb⟩
  have HW2 := Lib.hid (HW1.out.trans (hb.mono HW1.out.size))
  have HV2 := Lib.hid (HV1.out.below hb HV1.out.lt)
  clear hb HW1 HN1 HV1 n0 n1 n2
  go_wp2_with fail
  refine (L2.out _ (Or.inl rfl) _).mono ?_
  rintro e w3 ⟨rfl, hb⟩
  have HW3 := Lib.hid (HW2.out.trans (hb.mono HW2.out.size))
  have HV3 := Lib.hid (HV2.out.below hb HV2.out.lt)
  clear hb HW2 HV2
  go_wp2_with fail
  have HW3a := Lib.hid (HW3.out.alloc HW3.out.size (.cells #[.int .u8 xn, .int .u8 yn, .string z] 30))
  have HV3a := Lib.hid (HV3.out.alloc (.cells #[.int .u8 xn, .int .u8 yn, .string z] 30))
  have HX3 := Lib.hid (CellsAt.new w3 #[.int .u8 xn, .int .u8 yn, .string z] 30)
  refine (L2.out _ (Or.inr rfl) _).mono ?_
  rintro e w4 ⟨rfl, hb⟩
  have HW4 := Lib.hid (HW3a.out.trans (hb.mono HW3a.out.size))
  have HV4 := Lib.hid (HV3a.out.below hb HV3a.out.lt)
  have HX4 := Lib.hid (HX3.out.below hb HX3.out.lt)
  clear hb HW3 HW3a HV3 HV3a HX3
  obtain ⟨v0, v1, v2⟩ := (HV4.out.alloc (.cells #[.int .u8 xn, .int .u8 yn, .string z] 30)).c3
  go_wp2_with fail
  have HW4a := Lib.hid (HW4.out.alloc HW4.out.size (.cells #[.int .u8 xn, .int .u8 yn, .string z] 30))
  have HV4a := Lib.hid (HV4.out.alloc (.cells #[.int .u8 xn, .int .u8 yn, .string z] 30))
  have HX4a := Lib.hid (HX4.out.alloc (.cells #[.int .u8 xn, .int .u8 yn, .string z] 30))
  have HY4 := Lib.hid (CellsAt.new w4 #[.int .u8 xn, .int .u8 yn, .string z] 30)
  refine (L3.out _ (Or.inl rfl) _).mono ?_
  rintro e w5 ⟨rfl, hb⟩
  have HW5 := Lib.hid (HW4a.out.trans (hb.mono HW4a.out.size))
  have HV5 := Lib.hid (HV4a.out.below hb HV4a.out.lt)
  have HX5 := Lib.hid (HX4a.out.below hb HX4a.out.lt)
  have HY5 := Lib.hid (HY4.out.below hb HY4.out.lt)
  clear hb HW4 HW4a HV4 HV4a HX4 HX4a HY4 v0 v1 v2
  obtain ⟨v0, v1, v2⟩ := (HV5.out.alloc (.cells #[.int .u8 x3n, .int .u8 y3n, .string z3] 30)).c3
  go_wp2_with fail
  have HW5a := Lib.hid (HW5.out.alloc HW5.out.size (.cells #[.int .u8 x3n, .int .u8 y3n, .string z3] 30))
  have HX5a := Lib.hid (HX5.out.alloc (.cells #[.int .u8 x3n, .int .u8 y3n, .string z3] 30))
  have HY5a := Lib.hid (HY5.out.alloc (.cells #[.int .u8 x3n, .int .u8 y3n, .string z3] 30))
  have HP5 := Lib.hid (CellsAt.new w5 #[.int .u8 x3n, .int .u8 y3n, .string z3] 30)
  refine (L3.out _ (Or.inr rfl) _).mono ?_
  rintro e w6 ⟨rfl, hb⟩
  have HW6 := Lib.hid (HW5a.out.trans (hb.mono HW5a.out.size))
  have HX6 := Lib.hid (HX5a.out.below hb HX5a.out.lt)
  have HY6 := Lib.hid (HY5a.out.below hb HY5a.out.lt)
  have HP6 := Lib.hid (HP5.out.below hb HP5.out.lt)
  clear hb HW5 HW5a HX5 HX5a HY5 HY5a HP5 HV5 v0 v1 v2
  obtain ⟨x0, x1, x2⟩ := (HX6.out.alloc (.cells #[.int .u8 x3n, .int .u8 y3n, .string z3] 30)).c3
  obtain ⟨y0, y1, y2⟩ := (HY6.out.alloc (.cells #[.int .u8 x3n, .int .u8 y3n, .string z3] 30)).c3
  obtain ⟨p0, p1, p2⟩ := (HP6.out.alloc (.cells #[.int .u8 x3n, .int .u8 y3n, .string z3] 30)).c3
  have HW6a := Lib.hid (HW6.out.alloc HW6.out.size (.cells #[.int .u8 x3n, .int .u8 y3n, .string z3] 30))
  go_wp2_with fail
  refine (works_any _).mono ?_
  rintro e w7 ⟨rfl, hb⟩
  have HW7 := Lib.hid (HW6a.out.trans (hb.mono HW6a.out.size))
  clear hb HW6a HW6
  go_wp2_with fail
  go_ret
  exact ⟨rfl, HW7.out⟩

set_option maxRecDepth 100000 in
theorem msgNotes_lifted (os : Os) (started : os.Started) (H : Type) (enc : TypeId × Value → H) :
    ReturnsInHanded {} Try.checked os 4 .any (Rows.msgNotesSpec.pre6 enc Try.prog Try.f4 Rows.msgNotesRow.domain false) (Rows.msgNotesSpec.post enc Try.prog Try.f4 false true false false) := by
  refine returnsInHanded_of_change_sized (C := Try.checked) own started (by kernel_rfl) Try.func4
    (ChangeSpec.witness6 (enc := enc) (C := Try.checked) false ⟨#[], #[.agg #[.int .u8 0, .int .u8 0, .string .empty], .string .empty, .agg #[.int .i64 0, .int .u8 0, .int .u8 0]], []⟩ 8 (by kernel_rfl) (by kernel_rfl) (by kernel_rfl) (by kernel_rfl)) ?_
  intro W base args ds gs before hval0 hW hcnd hsz _
  have hval : ∀ (j : Nat) t v, Try.f4.params[j]? = some t → args[j]? = some v → Value.okWide Try.prog W .any base t v := hval0
  have hW' := hW
  obtain ⟨p, q, hA0, hV, rfl, hfz, hnd⟩ := hW
  have hA : DataW.TrodAll enc Try.prog W 0 (fun _ => true) true Try.f4.params.toList args.toList ds p := hA0
  rw [Try.params4] at hA hval
  obtain ⟨v0, vs0, d0, ds0, p0, q0, hargs, rfl, rfl, h0, r0⟩ := trodAll_cons hA
  obtain ⟨v1, vs1, d1, ds1, p1, q1, rfl, rfl, rfl, h1, r1⟩ := trodAll_cons r0
  obtain ⟨v2, vs2, d2, ds2, p2, q2, rfl, rfl, rfl, h2, r2⟩ := trodAll_cons r1
  obtain ⟨rfl, rfl, rfl⟩ := trodAll_nil r2
  obtain rfl : args = #[v0, v1, v2] := by cases args; simp_all
  obtain ⟨rfl, rfl⟩ := trodVars_none hV
  obtain ⟨c, s, t, x, y, rfl, rfl⟩ := open_note (hval 0 30 v0 rfl rfl) h0
  obtain ⟨b, rfl, rfl, rfl, hs_b⟩ := open_string Try.underlying9 (hval 1 9 v1 rfl rfl) h1
  obtain ⟨a, c2, s2, rfl⟩ := open_verd (hval 2 25 v2 rfl rfl) h2
  have rs_t : t.size ≤ 1152921504606846976 := by have h := sized_string_in hsz (j := 0) rfl rfl Try.underlying30 (i := 2) rfl rfl; have e : reachBytes < 2 ^ 47 := reachBytes_lt; have e2 : t.data.toList.length = t.size := by { rw [Array.length_toList]; rfl }; omega
  have rs_b : b.size ≤ 140737488351232 := by have h := sized_string hsz (j := 1) rfl rfl; simpa [reachBytes] using h
  refine (msgNotes_walk c s t b a c2 s2 W rs_t (by omega)).mono fun e W' ⟨he, bel⟩ => ?_
  exact ⟨_, he, law_post laidOut (by kernel_rfl) rfl (by kernel_rfl) Try.underlying4 hW' rfl bel⟩

theorem msgNotes_holds : Rows.MsgNotesSaid :=
  OpenClaim.holds_of_wide 4 Try.f4 rfl rfl rfl rfl rfl rfl rfl ⟨rfl, rfl, rfl, rfl, rfl⟩ rfl rfl rfl rfl rfl (by kernel_rfl) Try.func4 (by kernel_rfl)
    (of_decide_eq_true (by kernel_rfl)) (by unfold Func.isWrapper; first | (rw [if_pos (by decide +kernel)]; kernel_rfl) | (rw [if_neg (by decide +kernel)]; exact ⟨rfl, rfl⟩))
    (fun os started H enc _ => msgNotes_lifted os started H enc)

end Go.Proofs.Ytpipeilmolmfpaa
