/-
  WireKnown: the closed statement answers true. Conditions: none.
-/
import Derived.Test.YtgjebmnomgdckaaLawWhole
set_option linter.unusedVariables false
set_option linter.unusedSimpArgs false
namespace Go.Proofs.Ytgjebmnomgdckaa
open Go.RowKit
open Go.ChangeShapes Go.WideShapes Go.ChangeAt
open Go.ChangeMaps (open_string shut_string)

theorem take_nil (n : Int) (w : World) : Calls Try.prog 13 #[.pointer none, .int .i64 n] w fun e w' => e = .returned (.tuple #[.string ByteArray.empty, .bool false]) ∧ w' = w := by
  go_enter Try.func13, Try.ntmps13
  go_wp2
  go_ret2
  exact ⟨rfl, rfl⟩
theorem left_nil (w : World) : Calls Try.prog 18 #[.pointer none] w fun e w' => e = .returned (.int .i64 0) ∧ w' = w := by
  go_enter Try.func18, Try.ntmps18
  go_wp2
  go_ret
  exact ⟨rfl, rfl⟩
theorem rest_nil (w : World) : Calls Try.prog 17 #[.pointer none] w fun e w' => e = .returned (.string ByteArray.empty) ∧ w' = w := by
  go_enter Try.func17, Try.ntmps17
  go_wp2_with fail
  refine (left_nil _).mono ?_
  rintro e w' ⟨rfl, rfl⟩
  go_wp2_with fail
  refine (take_nil _ _).mono ?_
  rintro e w' ⟨rfl, rfl⟩
  go_wp2_with fail
  go_ret
  exact ⟨rfl, rfl⟩
/-- a reader that New did not make -/
def RdOff (w : World) (b : Nat) : Prop := w.heap[b]? = some (.cells #[.bool false, .string ⟨#[]⟩] 55 (0, 0))
theorem RdOff.c0 {w : World} {b : Nat} (h : RdOff w b) : w.cell? ⟨b, 0, none⟩ = some (.bool false) := (cell_of_row w b 0 _ _ _ h).trans rfl
theorem RdOff.c1 {w : World} {b : Nat} (h : RdOff w b) : w.cell? ⟨b, 1, none⟩ = some (.string ⟨#[]⟩) := (cell_of_row w b 1 _ _ _ h).trans rfl
theorem RdOff.lt {w : World} {b : Nat} (h : RdOff w b) : b < w.heap.size := (Array.getElem?_eq_some_iff.1 h).1
theorem take_off (b : Nat) (n : Int) (w : World) (h : RdOff w b) : Calls Try.prog 13 #[.pointer (some ⟨b, 0, none⟩), .int .i64 n] w fun e w' => e = .returned (.tuple #[.string ByteArray.empty, .bool false]) ∧ w' = w := by
  have c0 := h.c0
  clear h
  go_enter Try.func13, Try.ntmps13
  go_wp2
  go_ret2
  exact ⟨rfl, rfl⟩
theorem left_off (b : Nat) (w : World) (h : RdOff w b) : Calls Try.prog 18 #[.pointer (some ⟨b, 0, none⟩)] w fun e w' => e = .returned (.int .i64 0) ∧ w' = w := by
  have c1 := h.c1
  clear h
  go_enter Try.func18, Try.ntmps18
  go_wp2
  go_ret
  exact ⟨rfl, rfl⟩
theorem number_off (b : Nat) (w : World) (h : RdOff w b) : Calls Try.prog 15 #[.pointer (some ⟨b, 0, none⟩), .int .i64 1] w fun e w' => e = .returned (.tuple #[.int .u64 0, .bool false]) ∧ Below w.heap.size w w' := by
  have H := Lib.hid h
  clear h
  go_enter Try.func15, Try.ntmps15
  go_wp2_with fail
  refine (take_off b _ _ H.out).mono ?_
  rintro e w' ⟨rfl, rfl⟩
  go_wp2_with fail
  refine (sum_any _).mono ?_
  rintro e w1 ⟨rfl, rfl⟩
  go_wp2_with fail
  refine wp_loop_rounds 1 ?_
  rw [rounds_succ]
  go_wp2_with fail
  have hn := NumAt.new w' 0
  refine (value_any _ 0 _ hn.c).mono ?_
  rintro e w1 ⟨rfl, rfl⟩
  go_wp2_with fail
  go_ret2
  exact ⟨rfl, (Below.refl _ _).alloc (Nat.le_refl _) _⟩

set_option maxRecDepth 100000 in
set_option maxHeartbeats 1000000 in
theorem wireKnown_walk (w : World) : Calls Try.prog 8 #[] w fun e w' => e = .returned (.bool true) ∧ Below w.heap.size w w' := by
  go_enter Try.func8, Try.ntmps8
  have hbz := Below.refl w.heap.size w
  have HB := Lib.hid hbz
  clear hbz
  go_wp2_with fail
  refine (new_any _ _).mono ?_
  rintro e wx ⟨rfl, rfl⟩
  have hr : RdAt (w.alloc (.cells #[.bool true, .string ⟨#[97, 98, 99]⟩] 55)) w.heap.size ⟨#[97, 98, 99]⟩ := heap_alloc_new w _
  have hb : Below w.heap.size w (w.alloc (.cells #[.bool true, .string ⟨#[97, 98, 99]⟩] 55)) := HB.out.alloc HB.out.size _
  generalize w.alloc (.cells #[.bool true, .string ⟨#[97, 98, 99]⟩] 55) = w1 at hr hb ⊢
  obtain ⟨r1, hrk⟩ : ∃ r, r = w.heap.size := ⟨_, rfl⟩
  have hz1 : w.heap.size ≤ r1 := by omega
  rw [← hrk] at hr
  rw [show Value.pointer (some ⟨w.heap.size, 0, none⟩) = Value.pointer (some ⟨r1, 0, none⟩) by rw [hrk]]
  clear hrk
  have HR := Lib.hid hr
  clear HB
  have HB := Lib.hid hb
  clear hr hb
  go_wp2_with fail
  refine (take_no r1 _ (-1) _ HR.out (by decide) (by decide)).mono ?_
  rintro e wx ⟨rfl, rfl⟩
  go_wp2_with fail
  refine (number_bad r1 9 _ (by decide)).mono ?_
  rintro e wx ⟨rfl, rfl⟩
  go_wp2_with fail
  refine (number_bad r1 0 _ (by decide)).mono ?_
  rintro e wx ⟨rfl, rfl⟩
  go_wp2_with fail
  refine (number_short r1 _ 4 _ HR.out (by decide) (by decide) (by decide) (by decide)).mono ?_
  rintro e w2 ⟨rfl, hr, hg⟩
  have hb := HB.out.grown hg HB.out.size (fun k hk => by cases hk; exact hz1)
  clear HR HB hg
  have HR := Lib.hid hr
  have HB := Lib.hid hb
  clear hr hb
  go_wp2_with fail
  refine (rest_any r1 ⟨#[97, 98, 99]⟩ _ HR.out (by decide)).mono ?_
  rintro e wx ⟨rfl, rfl⟩
  have hr := HR.out.set ByteArray.empty
  have hb := HB.out.setCell (p := ⟨r1, 1, none⟩) hz1 (.string ByteArray.empty)
  generalize w2.setCell ⟨r1, 1, none⟩ (.string ByteArray.empty) = w3 at hr hb ⊢
  clear HR HB
  have HR := Lib.hid hr
  have HB := Lib.hid hb
  clear hr hb
  have hre : (ByteArray.empty.toList == []) = true := by rw [ByteArray.toList_eq]; rfl
  go_wp2_with fail
  refine (rest_any r1 ByteArray.empty _ HR.out (by decide)).mono ?_
  rintro e wx ⟨rfl, rfl⟩
  have hb := HB.out.setCell (p := ⟨r1, 1, none⟩) hz1 (.string ByteArray.empty)
  generalize w3.setCell ⟨r1, 1, none⟩ (.string ByteArray.empty) = w4 at hb ⊢
  clear HR HB
  have HB := Lib.hid hb
  clear hb
  go_wp2_with fail
  refine (new_any _ _).mono ?_
  rintro e wx ⟨rfl, rfl⟩
  have hr : RdAt (w4.alloc (.cells #[.bool true, .string ⟨#[1, 2, 3]⟩] 55)) w4.heap.size ⟨#[1, 2, 3]⟩ := heap_alloc_new w4 _
  have hb : Below w.heap.size w (w4.alloc (.cells #[.bool true, .string ⟨#[1, 2, 3]⟩] 55)) := HB.out.alloc HB.out.size _
  have hz5 : w.heap.size ≤ w4.heap.size := HB.out.size
  generalize w4.alloc (.cells #[.bool true, .string ⟨#[1, 2, 3]⟩] 55) = w5 at hr hb ⊢
  generalize w4.heap.size = r5 at hr hz5 ⊢
  have HR := Lib.hid hr
  clear HB
  have HB := Lib.hid hb
  clear hr hb
  go_wp2_with fail
  refine (take_ok r5 _ 1 _ HR.out (by decide) (by decide) (by decide)).mono ?_
  rintro e wx ⟨rfl, rfl⟩
  have e1 : ByteArray.extract ⟨#[1, 2, 3]⟩ 0 (1 : Int).toNat = ⟨#[1]⟩ := by decide +kernel
  have e2 : ByteArray.extract ⟨#[1, 2, 3]⟩ (1 : Int).toNat (ByteArray.mk #[1, 2, 3]).size = ⟨#[2, 3]⟩ := by decide +kernel
  rw [e1, e2]
  clear e1 e2
  have hr := HR.out.set ⟨#[2, 3]⟩
  have hb := HB.out.setCell (p := ⟨r5, 1, none⟩) hz5 (.string ⟨#[2, 3]⟩)
  generalize w5.setCell ⟨r5, 1, none⟩ (.string ⟨#[2, 3]⟩) = w6 at hr hb ⊢
  clear HR HB
  have HR := Lib.hid hr
  have HB := Lib.hid hb
  clear hr hb
  go_wp2_with fail
  refine (number_ok r5 _ 2 _ HR.out (by decide) (by decide) (by decide) (by decide)).mono ?_
  rintro e w7 ⟨rfl, hr, hg⟩
  rw [show beVal ((ByteArray.mk #[2, 3]).data.toList.take 2) = 515 by decide +kernel]
  have hb := HB.out.grown hg HB.out.size (fun k hk => by cases hk; exact hz5)
  clear HR HB hg
  have HR := Lib.hid hr
  have HB := Lib.hid hb
  clear hr hb
  have hr2 : RdAt w7 r5 ByteArray.empty := by have h := HR.out; rwa [show ByteArray.extract ⟨#[2, 3]⟩ 2 (ByteArray.mk #[2, 3]).size = ByteArray.empty by decide +kernel] at h
  clear HR
  have HR := Lib.hid hr2
  clear hr2
  go_wp2_with fail
  refine (take_ok r5 _ 0 _ HR.out (by decide) (by decide) (by decide)).mono ?_
  rintro e wx ⟨rfl, rfl⟩
  have e1 : ByteArray.extract ByteArray.empty 0 (0 : Int).toNat = ByteArray.empty := by decide +kernel
  have e2 : ByteArray.extract ByteArray.empty (0 : Int).toNat ByteArray.empty.size = ByteArray.empty := by decide +kernel
  rw [e1, e2]
  clear e1 e2
  have hr := HR.out.set ByteArray.empty
  have hb := HB.out.setCell (p := ⟨r5, 1, none⟩) hz5 (.string ByteArray.empty)
  generalize w7.setCell ⟨r5, 1, none⟩ (.string ByteArray.empty) = w8 at hr hb ⊢
  clear HR HB
  have HR := Lib.hid hr
  have HB := Lib.hid hb
  clear hr hb
  go_wp2_with fail
  refine (take_no r5 _ 1 _ HR.out (by decide) (by decide)).mono ?_
  rintro e wx ⟨rfl, rfl⟩
  go_wp2_with fail
  refine (left_any r5 _ _ HR.out).mono ?_
  rintro e wx ⟨rfl, rfl⟩
  rw [show ((ByteArray.empty.size : Nat) : Int) = 0 from rfl]
  clear HR
  go_wp2_with fail
  refine (put_long _ 258 1 _ (by omega) (by omega) (by omega) (by omega) (by decide +kernel)).mono ?_
  rintro e wx ⟨rfl, rfl⟩
  go_wp2_with fail
  refine (put_bad _ 0 0 _ (by decide)).mono ?_
  rintro e wx ⟨rfl, rfl⟩
  go_wp2_with fail
  refine (put_ok _ 18446744073709551615 8 _ (by decide) (by omega) (by omega) (by omega) (by omega) (by decide +kernel)).mono ?_
  rintro e w9 ⟨rfl, hbx⟩
  rw [show putS ⟨#[]⟩ (18446744073709551615 : Int).toNat 8 8 = ⟨#[255, 255, 255, 255, 255, 255, 255, 255]⟩ by decide +kernel]
  have hb := HB.out.trans (hbx.mono HB.out.size)
  clear HB hbx
  have HB := Lib.hid hb
  clear hb
  go_wp2_with fail
  refine (put_bad _ 0 9 _ (by decide)).mono ?_
  rintro e wx ⟨rfl, rfl⟩
  go_wp2_with fail
  refine (unhex_even ⟨#[54, 49, 55, 97]⟩ _ 2 2 (by decide) (by decide) (by decide) (show ∀ j, j < 2 → (undig (bAt _ (2 * j)) < 16 ∧ undig (bAt _ (2 * j + 1)) < 16) by decide +kernel) (fun h => absurd h (by decide))).mono ?_
  rintro e w10 ⟨rfl, hbx⟩
  rw [show unhOut ⟨#[54, 49, 55, 97]⟩ 2 2 = .tuple #[.string ⟨#[97, 122]⟩, .int .i64 0] by rw [unhOut, if_pos rfl, show (unhL ⟨#[54, 49, 55, 97]⟩ 2) = [97, 122] by decide +kernel]]
  have hb := HB.out.trans (hbx.mono HB.out.size)
  clear HB hbx
  have HB := Lib.hid hb
  clear hb
  go_wp2_with fail
  refine (unhex_odd ⟨#[54]⟩ _ (by decide) (by decide)).mono ?_
  rintro e wx ⟨rfl, rfl⟩
  go_wp2_with fail
  refine (unhex_even ⟨#[54, 65]⟩ _ 0 1 (by decide) (by decide) (by decide) (fun j hj => absurd hj (by omega)) (fun _ => show ¬ (undig (bAt _ (2 * 0)) < 16 ∧ undig (bAt _ (2 * 0 + 1)) < 16) by decide +kernel)).mono ?_
  rintro e w11 ⟨rfl, hbx⟩
  rw [show unhOut ⟨#[54, 65]⟩ 0 1 = .tuple #[.string ByteArray.empty, .int .i64 4] by rw [unhOut, if_neg (by decide)]]
  have hb := HB.out.trans (hbx.mono HB.out.size)
  clear HB hbx
  have HB := Lib.hid hb
  clear hb
  go_wp2_with fail
  refine (take_nil 0 _).mono ?_
  rintro e wx ⟨rfl, rfl⟩
  have hr : RdOff (w11.alloc (.cells #[.bool false, .string ⟨#[]⟩] 55)) w11.heap.size := heap_alloc_new w11 _
  have hb : Below w.heap.size w (w11.alloc (.cells #[.bool false, .string ⟨#[]⟩] 55)) := HB.out.alloc HB.out.size _
  generalize w11.alloc (.cells #[.bool false, .string ⟨#[]⟩] 55) = we at hr hb ⊢
  generalize w11.heap.size = r at hr ⊢
  have HR := Lib.hid hr
  clear HB
  have HB := Lib.hid hb
  clear hr hb
  go_wp2_with fail
  refine (number_off r _ HR.out).mono ?_
  rintro e w12 ⟨rfl, hbx⟩
  have hb := HB.out.trans (hbx.mono HB.out.size)
  have hr : RdOff _ r := (hbx.block r HR.out.lt).trans HR.out
  clear HB hbx HR
  have HB := Lib.hid hb
  clear hb
  have HR := Lib.hid hr
  clear hr
  go_wp2_with fail
  refine (works_any _).mono ?_
  rintro e w13 ⟨rfl, hbx⟩
  have hb := HB.out.trans (hbx.mono HB.out.size)
  have hr : RdOff _ r := (hbx.block r HR.out.lt).trans HR.out
  clear HB hbx HR
  have HB := Lib.hid hb
  clear hb
  have HR := Lib.hid hr
  clear hr
  go_wp2_with fail
  refine (hex_any ⟨#[97, 122]⟩ _ (by decide)).mono ?_
  rintro e w14 ⟨rfl, hbx⟩
  rw [show ByteArray.mk (hexL (ByteArray.mk #[97, 122]).data.toList).toArray = ⟨#[54, 49, 55, 97]⟩ by decide +kernel]
  have hb := HB.out.trans (hbx.mono HB.out.size)
  have hr : RdOff _ r := (hbx.block r HR.out.lt).trans HR.out
  clear HB hbx HR
  have HB := Lib.hid hb
  clear hb
  have HR := Lib.hid hr
  clear hr
  go_wp2_with fail
  refine (left_nil _).mono ?_
  rintro e wx ⟨rfl, rfl⟩
  go_wp2_with fail
  refine (rest_nil _).mono ?_
  rintro e wx ⟨rfl, rfl⟩
  go_wp2_with fail
  refine (left_off r _ HR.out).mono ?_
  rintro e wx ⟨rfl, rfl⟩
  go_wp2_with fail
  go_ret
  exact ⟨rfl, HB.out⟩

set_option maxRecDepth 100000 in
theorem wireKnown_lifted (os : Os) (started : os.Started) (H : Type) (enc : TypeId × Value → H) :
    ReturnsInHanded {} Try.checked os 8 .any (Rows.wireKnownSpec.pre6 enc Try.prog Try.f8 Rows.wireKnownRow.domain false) (Rows.wireKnownSpec.post enc Try.prog Try.f8 false true false false) := by
  refine returnsInHanded_of_change (C := Try.checked) own started (by kernel_rfl) Try.func8
    (ChangeSpec.witness6 (enc := enc) (C := Try.checked) false ⟨#[], #[], []⟩ 8 (by kernel_rfl) (by kernel_rfl) (by kernel_rfl) (by kernel_rfl)) ?_
  intro W base args ds gs before hval0 hW hcnd _
  have hval : ∀ (j : Nat) t v, Try.f8.params[j]? = some t → args[j]? = some v → Value.okWide Try.prog W .any base t v := hval0
  have hW' := hW
  obtain ⟨p, q, hA0, hV, rfl, hfz, hnd⟩ := hW
  have hA : DataW.TrodAll enc Try.prog W 0 (fun _ => true) true Try.f8.params.toList args.toList ds p := hA0
  rw [Try.params8] at hA hval
  obtain ⟨hargs, rfl, rfl⟩ := trodAll_none hA
  obtain rfl : args = #[] := by cases args; simp_all
  obtain ⟨rfl, rfl⟩ := trodVars_none hV
  refine (wireKnown_walk W).mono fun e W' ⟨he, bel⟩ => ?_
  exact ⟨_, he, law_post laidOut (by kernel_rfl) rfl (by kernel_rfl) Try.underlying4 hW' rfl bel⟩

theorem wireKnown_holds : Rows.WireKnownSaid :=
  OpenClaim.holds_of_wide 8 Try.f8 rfl rfl rfl rfl rfl rfl rfl ⟨rfl, rfl, rfl, rfl, rfl⟩ rfl rfl rfl rfl rfl (by kernel_rfl) Try.func8 (by kernel_rfl)
    (of_decide_eq_true (by kernel_rfl)) (by unfold Func.isWrapper; first | (rw [if_pos (by decide +kernel)]; kernel_rfl) | (rw [if_neg (by decide +kernel)]; exact ⟨rfl, rfl⟩))
    (fun os started H enc _ => wireKnown_lifted os started H enc)

end Go.Proofs.Ytgjebmnomgdckaa
