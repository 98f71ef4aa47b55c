/-
  Contract of heraldlaw12.works. Conditions: none.
-/
import Derived.Test.YtpipeilmolmfpaaMsgE
set_option linter.unusedVariables false
set_option linter.unusedSimpArgs false
namespace Go.Proofs.Ytpipeilmolmfpaa
open Go.RowKit

set_option maxRecDepth 100000 in
theorem works_any (w : World) : Calls Try.prog 14 #[] w fun e w' => e = .returned (.bool true) ∧ Below w.heap.size w w' := by
  go_enter Try.func14, Try.ntmps14
  go_wp2_with fail
  refine (note_any _ (Or.inl rfl) 6 2 ⟨#[120]⟩ _ (by decide)).mono ?_
  rintro e w1 ⟨rfl, hb1⟩
  have HB1 := Lib.hid hb1
  clear hb1
  rw [if_neg (by decide), if_neg (by decide)]
  have e1 : (⟨#[6, 2]⟩ ++ ⟨#[120]⟩ : ByteArray) = ⟨#[6, 2, 120]⟩ := rfl
  rw [e1]
  go_wp2_with fail
  refine (readnote_any _ (Or.inl rfl) ⟨#[6, 2, 120]⟩ _ (by decide)).mono ?_
  rintro e w2 ⟨rfl, hb2⟩
  have HB2 := Lib.hid (HB1.out.trans (hb2.mono HB1.out.size))
  clear hb2 HB1
  rw [if_neg (by decide), if_neg (by decide)]
  have e2 : noteV (ByteArray.mk #[6, 2, 120])[0]! (ByteArray.mk #[6, 2, 120])[1]! ((ByteArray.mk #[6, 2, 120]).extract 2 (ByteArray.mk #[6, 2, 120]).size) = .agg #[.int .u8 6, .int .u8 2, .string ⟨#[120]⟩] := by kernel_rfl
  rw [e2]
  go_wp2_with fail
  refine (readrefresh_any ⟨#[0, 2, 0, 1]⟩ _ (by decide)).mono ?_
  rintro e w3 ⟨rfl, hb3⟩
  have e3 : readR ⟨#[0, 2, 0, 1]⟩ = .tuple #[.int .i64 2, .int .i64 0] := by kernel_rfl
  rw [e3]
  clear e3 e2
  obtain ⟨hc, hf⟩ := bcell hb3
  have HA := Lib.hid (HB2.out.alloc HB2.out.size (.cells #[.int .u8 6, .int .u8 2, .string ⟨#[120]⟩] 30))
  have HB3 := Lib.hid (HA.out.trans (hb3.mono HA.out.size))
  clear hb3 HA HB2
  go_wp2_with fail
  refine (size_any 4 1 _).mono ?_
  rintro e w4 ⟨rfl, hb4⟩
  have HB4 := Lib.hid (HB3.out.trans (hb4.mono HB3.out.size))
  clear hb4 HB3
  have e4 : sizeR 4 1 = .agg #[.int .i64 3, .int .u8 1, .int .u8 2] := by kernel_rfl
  rw [e4]
  have hfld : (Instr.field 25 (.agg #[.int .i64 3, .int .u8 1, .int .u8 2]) 2).run Try.prog w4 = .ok (.int .u8 2) w4 := by kernel_rfl
  go_wp2_with fail
  go_ret
  exact ⟨rfl, HB4.out⟩

end Go.Proofs.Ytpipeilmolmfpaa
