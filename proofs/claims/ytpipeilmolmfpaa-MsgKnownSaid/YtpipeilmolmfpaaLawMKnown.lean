/-
  MsgKnown: the law answers true. Conditions: none.
-/
import Derived.Test.YtpipeilmolmfpaaLawMBack
import Derived.Deep.QuietTactic
import Derived.BigQuiet
import Derived.LoopTactic
set_option linter.unusedVariables false
set_option linter.unusedSimpArgs false
namespace Go.Proofs.Ytpipeilmolmfpaa
open Go.RowKit
open Go.ChangeShapes Go.WideShapes Go.ChangeAt
open Go.ChangeMaps (open_string shut_string)

theorem known_sizes (f : Int) (h1 : 1 ≤ f) (h2 : f ≤ 5) : sizeR f (leastV f) = .agg #[.int .i64 0, .int .u8 0, .int .u8 0] ∧ sizeR f (leastV f - 1) = .agg #[.int .i64 3, .int .u8 1, .int .u8 2] ∧ sizeR f 4078 = .agg #[.int .i64 3, .int .u8 1, .int .u8 2] := by
  rcases fam_five h1 h2 with rfl | rfl | rfl | rfl | rfl <;> exact ⟨rfl, rfl, rfl⟩

/-- the law's table -/
def leastAt (w : World) (B : Nat) : Prop := CellsAt w B #[.int .i64 10, .int .i64 4, .int .i64 2, .int .i64 0, .int .i64 4] 3
theorem leastAt.at_ {w : World} {B k : Nat} (h : leastAt w B) (hk : k < 5) : w.cell? ⟨B, k, none⟩ = some (.int .i64 (leastV ((k : Int) + 1))) := by
  have hc := h.c k
  rcases (show k = 0 ∨ k = 1 ∨ k = 2 ∨ k = 3 ∨ k = 4 by omega) with rfl | rfl | rfl | rfl | rfl <;> exact hc.trans rfl

/-- string(make([]byte, n)) -/
theorem mk_str (n : Nat) (z : Int) (hz : z = n) (hn : n ≤ 5000) : ∃ (d : ByteArray) (cs : Array Value), d.size = n ∧ ∀ u : World,
    (Instr.makeSlice 47 (.int .i64 z) (.int .i64 z)).run Try.prog u = .ok (.slice (some ⟨u.heap.size, 0, none⟩) n n) (u.alloc (.cells cs 5)) ∧
    (convert 47 9 (.slice (some ⟨u.heap.size, 0, none⟩) n n)).run Try.prog (u.alloc (.cells cs 5)) = .ok (.string d) (u.alloc (.cells cs 5)) := by
  obtain ⟨i0, hi, hz0, hz1, hz2⟩ := info_parts infoU8
  subst hz
  refine ⟨⟨(List.replicate n 0).toArray⟩, madeCells #[.int .u8 0] n, by show (List.replicate n (0 : UInt8)).toArray.size = n; simp, fun u => ⟨?_, ?_⟩⟩
  · have h := run_make (P := Try.prog) u 47 5 i0 (.int .u8 0) Try.underlying47 hi hz0 .i64 .i64 n n (by omega) (by omega) (by rw [hz2]; omega) (by omega)
    simpa [hz1, Value.cells] using h
  · have h := run_convert_bytes_back (P := Try.prog) (u.alloc (.cells (madeCells #[.int .u8 0] n) 5)) 47 9 5 ⟨u.heap.size, 0, none⟩ n (List.replicate n 0) Try.underlying47 Try.underlying5 Try.underlying9 (fun j hj => by
      rw [add_flat, cell_of_row _ u.heap.size j _ _ _ (heap_alloc_new u _)]
      simp at hj
      simp [madeCells, hj, Nat.mod_one])
    simpa using h

set_option maxRecDepth 100000 in
set_option maxHeartbeats 1000000 in
theorem msgKnown_walk (w : World) : Calls Try.prog 9 #[] w fun e w' => e = .returned (.bool true) ∧ Below w.heap.size w w' := by
  go_enter Try.func9, Try.ntmps9
  go_wp2_with fail
  have HW0 : Hid (Below w.heap.size w (w.alloc (.cells #[.int .i64 10, .int .i64 4, .int .i64 2, .int .i64 0, .int .i64 4] 3))) := by
    show Below _ _ _
    go_grown
  have HL0 : Hid (leastAt (w.alloc (.cells #[.int .i64 10, .int .i64 4, .int .i64 2, .int .i64 0, .int .i64 4] 3)) w.heap.size) := CellsAt.new w _ _
  generalize w.alloc (.cells #[.int .i64 10, .int .i64 4, .int .i64 2, .int .i64 0, .int .i64 4] 3) = W0 at HW0 HL0 ⊢
  go_loopw [2] (fun i wr => ∃ k : Nat, k ≤ 5 ∧ i = .int .i64 k ∧ Below w.heap.size w wr ∧ leastAt wr w.heap.size) (fun i _ => 6 - (intOf i).toNat)
  case atStart => exact ⟨0, by omega, rfl, HW0.out, HL0.out⟩
  case round =>
    obtain ⟨k, hk, rfl, hb, hl⟩ := hrel
    have HW := Lib.hid hb
    have HL := Lib.hid hl
    clear hb hl HW0 HL0
    by_cases hlt : k < 5
    · obtain ⟨s1, s2, s3⟩ := known_sizes ((k : Int) + 1) (by omega) (by omega)
      have S1 := Lib.hid s1
      have S2 := Lib.hid s2
      have S3 := Lib.hid s3
      have hin := leastV_in ((k : Int) + 1)
      clear s1 s2 s3
      go_wp2_with fail
      refine (least_in _ _ (by omega) (by omega)).mono ?_
      rintro e w1 ⟨rfl, hb⟩
      have HW1 := Lib.hid (HW.out.trans (hb.mono HW.out.size))
      have HL1 : Hid (leastAt w1 w.heap.size) := HL.out.below hb HL.out.lt
      clear hb HW HL
      have hc := HL1.out.at_ hlt
      generalize leastV ((k : Int) + 1) = L at *
      have el : (L != L) = false := by simp
      go_wp2_with fail
      refine (size_any _ _ _).mono ?_
      rintro e w2 ⟨rfl, hb⟩
      have HW2 := Lib.hid (HW1.out.trans (hb.mono HW1.out.size))
      have HL2 : Hid (leastAt w2 w.heap.size) := HL1.out.below hb HL1.out.lt
      clear hb HW1 HL1 hc
      rw [S1.out]
      go_wp2_with fail
      refine (size_any _ _ _).mono ?_
      rintro e w3 ⟨rfl, hb⟩
      have HW3 := Lib.hid (HW2.out.trans (hb.mono HW2.out.size))
      have HL3 : Hid (leastAt w3 w.heap.size) := HL2.out.below hb HL2.out.lt
      clear hb HW2 HL2
      rw [S2.out]
      have hf3 : (Instr.field 25 (.agg #[.int .i64 3, .int .u8 1, .int .u8 2]) 2).run Try.prog w3 = .ok (.int .u8 2) w3 := by kernel_rfl
      go_wp2_with fail
      refine (size_any _ _ _).mono ?_
      rintro e w4 ⟨rfl, hb⟩
      have HW4 := Lib.hid (HW3.out.trans (hb.mono HW3.out.size))
      have HL4 : Hid (leastAt w4 w.heap.size) := HL3.out.below hb HL3.out.lt
      clear hb HW3 HL3 hf3
      rw [S3.out]
      have hf4 : (Instr.field 25 (.agg #[.int .i64 3, .int .u8 1, .int .u8 2]) 2).run Try.prog w4 = .ok (.int .u8 2) w4 := by kernel_rfl
      go_wp2_with fail
      exact ⟨⟨k + 1, by omega, by go_num, HW4.out, HL4.out⟩, by simp [intOf]; omega⟩
    · obtain rfl : k = 5 := by omega
      clear HL
      go_wp2_with fail
      refine (least_out 0 _ (by omega)).mono ?_
      rintro e w1 ⟨rfl, rfl⟩
      go_wp2_with fail
      refine (note_any _ (Or.inl rfl) 0 0 ByteArray.empty _ (by decide)).mono ?_
      rintro e w2 ⟨rfl, hb⟩
      have HW2 := Lib.hid (HW.out.trans (hb.mono HW.out.size))
      clear hb HW
      rw [if_pos rfl]
      obtain ⟨d1, cs1, hd1, hm⟩ := mk_str 4076 4076 rfl (by decide)
      obtain ⟨hm1, hm2⟩ := hm w2
      have HW2a := Lib.hid (HW2.out.alloc HW2.out.size (.cells cs1 5))
      clear hm
      go_wp2_with fail
      refine (note_any _ (Or.inl rfl) 1 0 d1 _ (by omega)).mono ?_
      rintro e w3 ⟨rfl, hb⟩
      have HW3 := Lib.hid (HW2a.out.trans (hb.mono HW2a.out.size))
      rw [if_neg (by decide), if_pos (by omega)]
      clear hb HW2 HW2a hm1 hm2 hd1
      obtain ⟨d2, cs2, hd2, hm⟩ := mk_str 4075 4075 rfl (by decide)
      obtain ⟨hm1, hm2⟩ := hm w3
      have HW3a := Lib.hid (HW3.out.alloc HW3.out.size (.cells cs2 5))
      clear hm
      go_wp2_with fail
      refine (note_any _ (Or.inl rfl) 1 0 d2 _ (by omega)).mono ?_
      rintro e w4 ⟨rfl, hb⟩
      have HW4 := Lib.hid (HW3a.out.trans (hb.mono HW3a.out.size))
      rw [if_neg (by decide), if_neg (by omega)]
      clear hb HW3 HW3a hm1 hm2 hd2
      generalize (⟨#[1, 0]⟩ ++ d2 : ByteArray) = g2
      go_wp2_with fail
      refine (readnote_any _ (Or.inl rfl) ⟨#[6]⟩ _ (by decide)).mono ?_
      rintro e w5 ⟨rfl, hb⟩
      have HW5 := Lib.hid (HW4.out.trans (hb.mono HW4.out.size))
      rw [if_neg (by decide), if_pos (by decide), show noteV 0 0 ByteArray.empty = .agg #[.int .u8 0, .int .u8 0, .string ByteArray.empty] from rfl]
      clear hb HW4
      have HW5a := Lib.hid (HW5.out.alloc HW5.out.size (.cells #[.int .u8 0, .int .u8 0, .string ByteArray.empty] 30))
      go_wp2_with fail
      refine (readnote_any _ (Or.inl rfl) ⟨#[0, 2]⟩ _ (by decide)).mono ?_
      rintro e w6 ⟨rfl, hb⟩
      have HW6 := Lib.hid (HW5a.out.trans (hb.mono HW5a.out.size))
      rw [if_neg (by decide), if_pos (by decide), show noteV 0 0 ByteArray.empty = .agg #[.int .u8 0, .int .u8 0, .string ByteArray.empty] from rfl]
      clear hb HW5 HW5a
      have HW6a := Lib.hid (HW6.out.alloc HW6.out.size (.cells #[.int .u8 0, .int .u8 0, .string ByteArray.empty] 30))
      obtain ⟨d3, cs3, hd3, hm⟩ := mk_str 4078 4078 rfl (by decide)
      obtain ⟨hm1, hm2⟩ := hm (w6.alloc (.cells #[.int .u8 0, .int .u8 0, .string ByteArray.empty] 30))
      have HW6b := Lib.hid (HW6a.out.alloc HW6a.out.size (.cells cs3 5))
      clear hm
      simp only [World.size_alloc] at hm1 hm2
      go_wp2_with fail
      refine (readnote_any _ (Or.inl rfl) d3 _ (by omega)).mono ?_
      rintro e w7 ⟨rfl, hb⟩
      have HW7 := Lib.hid (HW6b.out.trans (hb.mono HW6b.out.size))
      rw [if_pos (by omega), show noteV 0 0 ByteArray.empty = .agg #[.int .u8 0, .int .u8 0, .string ByteArray.empty] from rfl]
      clear hb HW6 HW6a HW6b hm1 hm2 hd3
      have HW7a := Lib.hid (HW7.out.alloc HW7.out.size (.cells #[.int .u8 0, .int .u8 0, .string ByteArray.empty] 30))
      go_wp2_with fail
      refine (refresh_out 0 _ (by omega)).mono ?_
      rintro e w8 ⟨rfl, hb⟩
      have HW8 := Lib.hid (HW7a.out.trans (hb.mono HW7a.out.size))
      clear hb HW7 HW7a
      go_wp2_with fail
      refine (readrefresh_any ⟨#[0, 2, 7, 1]⟩ _ (by decide)).mono ?_
      rintro e w9 ⟨rfl, hb⟩
      have HW9 := Lib.hid (HW8.out.trans (hb.mono HW8.out.size))
      rw [show readR ⟨#[0, 2, 7, 1]⟩ = .tuple #[.int .i64 2, .int .i64 0] from by kernel_rfl]
      clear hb HW8
      go_wp2_with fail
      refine (readrefresh_any ⟨#[0, 3, 0, 1]⟩ _ (by decide)).mono ?_
      rintro e w10 ⟨rfl, hb⟩
      have HW10 := Lib.hid (HW9.out.trans (hb.mono HW9.out.size))
      rw [show readR ⟨#[0, 3, 0, 1]⟩ = .tuple #[.int .i64 0, .int .i64 5] from by kernel_rfl]
      clear hb HW9
      go_wp2_with fail
      refine (readrefresh_any ⟨#[0, 2, 0]⟩ _ (by decide)).mono ?_
      rintro e w11 ⟨rfl, hb⟩
      have HW11 := Lib.hid (HW10.out.trans (hb.mono HW10.out.size))
      rw [show readR ⟨#[0, 2, 0]⟩ = .tuple #[.int .i64 0, .int .i64 4] from by kernel_rfl]
      clear hb HW10
      go_wp2_with fail
      refine (works_any _).mono ?_
      rintro e w12 ⟨rfl, hb⟩
      have HW12 := Lib.hid (HW11.out.trans (hb.mono HW11.out.size))
      clear hb HW11
      go_wp2_with fail
      refine (size_any 9 0 _).mono ?_
      rintro e w13 ⟨rfl, hb⟩
      have HW13 := Lib.hid (HW12.out.trans (hb.mono HW12.out.size))
      rw [show sizeR 9 0 = .agg #[.int .i64 3, .int .u8 1, .int .u8 3] from by kernel_rfl]
      clear hb HW12
      go_wp2_with fail
      refine (size_any 3 4077 _).mono ?_
      rintro e w14 ⟨rfl, hb⟩
      have HW14 := Lib.hid (HW13.out.trans (hb.mono HW13.out.size))
      rw [show sizeR 3 4077 = .agg #[.int .i64 0, .int .u8 0, .int .u8 0] from by kernel_rfl]
      clear hb HW13
      go_wp2_with fail
      refine (size_any 5 5 _).mono ?_
      rintro e w15 ⟨rfl, hb⟩
      have HW15 := Lib.hid (HW14.out.trans (hb.mono HW14.out.size))
      rw [show sizeR 5 5 = .agg #[.int .i64 3, .int .u8 1, .int .u8 2] from by kernel_rfl]
      have hf3 : (Instr.field 25 (.agg #[.int .i64 3, .int .u8 1, .int .u8 2]) 2).run Try.prog w15 = .ok (.int .u8 2) w15 := by kernel_rfl
      clear hb HW14
      go_wp2_with fail
      go_ret
      exact ⟨rfl, HW15.out⟩


set_option maxRecDepth 100000 in
theorem msgKnown_lifted (os : Os) (started : os.Started) (H : Type) (enc : TypeId × Value → H) :
    ReturnsInHanded {} Try.checked os 9 .any (Rows.msgKnownSpec.pre6 enc Try.prog Try.f9 Rows.msgKnownRow.domain false) (Rows.msgKnownSpec.post enc Try.prog Try.f9 false true false false) := by
  refine returnsInHanded_of_change (C := Try.checked) own started (by kernel_rfl) Try.func9
    (ChangeSpec.witness6 (enc := enc) (C := Try.checked) false ⟨#[], #[], []⟩ 8 (by kernel_rfl) (by kernel_rfl) (by kernel_rfl) (by kernel_rfl)) ?_
  intro W base args ds gs before hval0 hW hcnd _
  have hval : ∀ (j : Nat) t v, Try.f9.params[j]? = some t → args[j]? = some v → Value.okWide Try.prog W .any base t v := hval0
  have hW' := hW
  obtain ⟨p, q, hA0, hV, rfl, hfz, hnd⟩ := hW
  have hA : DataW.TrodAll enc Try.prog W 0 (fun _ => true) true Try.f9.params.toList args.toList ds p := hA0
  rw [Try.params9] at hA hval
  obtain ⟨hargs, rfl, rfl⟩ := trodAll_none hA
  obtain rfl : args = #[] := by cases args; simp_all
  obtain ⟨rfl, rfl⟩ := trodVars_none hV
  refine (msgKnown_walk W).mono fun e W' ⟨he, bel⟩ => ?_
  exact ⟨_, he, law_post laidOut (by kernel_rfl) rfl (by kernel_rfl) Try.underlying4 hW' rfl bel⟩

theorem msgKnown_holds : Rows.MsgKnownSaid :=
  OpenClaim.holds_of_wide 9 Try.f9 rfl rfl rfl rfl rfl rfl rfl ⟨rfl, rfl, rfl, rfl, rfl⟩ rfl rfl rfl rfl rfl (by kernel_rfl) Try.func9 (by kernel_rfl)
    (of_decide_eq_true (by kernel_rfl)) (by unfold Func.isWrapper; first | (rw [if_pos (by decide +kernel)]; kernel_rfl) | (rw [if_neg (by decide +kernel)]; exact ⟨rfl, rfl⟩))
    (fun os started H enc _ => msgKnown_lifted os started H enc)

end Go.Proofs.Ytpipeilmolmfpaa
