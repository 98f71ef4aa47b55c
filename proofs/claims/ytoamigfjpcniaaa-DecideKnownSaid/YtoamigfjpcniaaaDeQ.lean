/-
  The chapter's examples hold: works. Conditions: none.
-/
import Derived.Test.YtoamigfjpcniaaaDeP
set_option linter.unusedVariables false
set_option linter.unusedSimpArgs false
namespace Go.Proofs.Ytoamigfjpcniaaa
open Go.RowKit Go.MapKept Go.Shelf
open Go.Lib hiding intOf

theorem work1 {w : World} {p1 p2 : Pt} (h1 : OneP w ⟨#[97]⟩ 1 [1, 2] p1) (h2 : OneP w ⟨#[98]⟩ 2 [1] p2) : bestV (bestF (openL freeP 0 [p1, p2])) = .tuple #[.int .i64 1, .bool true] := by
  obtain ⟨A1, B1, c1, d1, rfl, _⟩ := h1
  obtain ⟨A2, B2, c2, d2, rfl, _⟩ := h2
  kernel_rfl
theorem work2 {w : World} {p1 p2 p3 : Pt} (h1 : OneP w ⟨#[97]⟩ 1 [1] p1) (h2 : OneP w ⟨#[98]⟩ 2 [1] p2) (h3 : OneP w ⟨#[99]⟩ 3 [2] p3) : bestV (bestF (openL freeP 0 [medP p1 5, medP p2 3, medP p3 9])) = .tuple #[.int .i64 1, .bool true] := by
  obtain ⟨A1, B1, c1, d1, rfl, _⟩ := h1
  obtain ⟨A2, B2, c2, d2, rfl, _⟩ := h2
  obtain ⟨A3, B3, c3, d3, rfl, _⟩ := h3
  kernel_rfl
theorem OneP.ok {w : World} {peer : ByteArray} {id : Int} {l : List Nat} {p : Pt} (h : OneP w peer id l p) : PtOk w p := by
  obtain ⟨_, _, _, _, _, ho⟩ := h
  exact ho
theorem ThreeAt.ps {w : World} {b : Nat} {p1 p2 p3 : Pt} (h : ThreeAt w b p1 p2 p3) : PsAt w (some ⟨b, 0, none⟩) 3 [medP p1 5, medP p2 3, medP p3 9] :=
  rows_at h.1 (by simp) (fun p hp => by
    simp only [List.mem_cons, List.not_mem_nil, or_false] at hp
    rcases hp with rfl | rfl | rfl
    · exact medP_ok h.2.1.ok _
    · exact medP_ok h.2.2.1.ok _
    · exact medP_ok h.2.2.2.ok _)
set_option maxRecDepth 100000 in
set_option maxHeartbeats 4000000 in
theorem works_any (w : World) : Calls Try.prog 13 #[] w fun e w' => e = .returned (.bool true) ∧ Below w.heap.size w w' := by
  have HP := Lib.hid path_one
  have HT := Lib.hid three_any
  have HBE := Lib.hid Best_any
  go_enter Try.func13, Try.ntmps13
  go_wp2_with fail
  refine (HP.out ⟨#[97]⟩ 1 [1, 2] w.heap.size 2 _ _ _ (CellsAt.new w #[.int .u32 1, .int .u32 2] 28) rfl rfl (by decide) (by decide) (by decide) (by decide)).mono ?_
  rintro e w1 ⟨p1, rfl, ho1, hb1⟩
  have HQ1 := Lib.hid ho1
  have HB1 : Hid (Below w.heap.size w w1) := ((Below.refl _ _).alloc (Nat.le_refl _) _).trans (hb1.mono (by simp))
  clear ho1 hb1
  have hs1 : w.heap.size ≤ w1.heap.size := HB1.out.size
  go_wp2_with fail
  refine (HP.out ⟨#[98]⟩ 2 [1] w1.heap.size 1 _ _ _ (CellsAt.new w1 #[.int .u32 1] 28) rfl rfl (by decide) (by decide) (by decide) (by decide)).mono ?_
  rintro e w2 ⟨p2, rfl, ho2, hb2⟩
  have HQ2 := Lib.hid ho2
  have HB2 : Hid (Below w.heap.size w w2) := (HB1.out.alloc hs1 _).trans (hb2.mono (by simp; omega))
  have HQ1b : Hid (OneP w2 ⟨#[97]⟩ 1 [1, 2] p1) := HQ1.out.below (((Below.refl w1.heap.size w1).alloc (Nat.le_refl _) _).trans (hb2.mono (by simp)))
  clear ho2 hb2 HQ1
  have hs2 : w.heap.size ≤ w2.heap.size := HB2.out.size
  go_wp2_with (with_reducible show wpList _ _ _ (_ :: _) _ _; refine wpList_build_paths rfl rfl [p1, p2] ?hv rfl (by decide) (by decide) ?_)
  have hbn : Below w2.heap.size w2 (w2.alloc (.cells (rows [p1, p2]) 38)) := (Below.refl _ _).alloc (Nat.le_refl _) _
  refine (HBE.out (some ⟨w2.heap.size, 0, none⟩) 2 [p1, p2] .nilFunc freeP _ (rows_at (CellsAt.new w2 _ _) (by simp) (fun p hp => by
    simp only [List.mem_cons, List.not_mem_nil, or_false] at hp
    rcases hp with rfl | rfl
    · exact (HQ1b.out.below hbn).ok
    · exact (HQ2.out.below hbn).ok)) (fits_free _) (by simp)).mono ?_
  rintro e w3 ⟨rfl, hb3⟩
  have HB3 : Hid (Below w.heap.size w w3) := (HB2.out.alloc hs2 _).trans (hb3.mono (by simp; omega))
  have hs3 : w.heap.size ≤ w3.heap.size := HB3.out.size
  rw [work1 HQ1b.out HQ2.out]
  clear hb3 hbn HQ1b HQ2 HB1 HB2
  go_wp2_with fail
  refine (HT.out _).mono ?_
  rintro e w4 ⟨b, q1, q2, q3, rfl, ht, hb4⟩
  have HTT := Lib.hid ht
  have HB4 : Hid (Below w.heap.size w w4) := HB3.out.trans (hb4.mono hs3)
  have hs4 : w.heap.size ≤ w4.heap.size := HB4.out.size
  clear ht hb4
  go_wp2_with fail
  refine (HBE.out (some ⟨b, 0, none⟩) 3 [medP q1 5, medP q2 3, medP q3 9] .nilFunc freeP _ HTT.out.ps (fits_free _) (by simp)).mono ?_
  rintro e w5 ⟨rfl, hb5⟩
  have HB5 : Hid (Below w.heap.size w w5) := HB4.out.trans (hb5.mono hs4)
  rw [work2 HTT.out.2.1 HTT.out.2.2.1 HTT.out.2.2.2]
  clear hb5
  go_wp2_with fail
  go_ret
  exact ⟨rfl, HB5.out⟩
end Go.Proofs.Ytoamigfjpcniaaa
