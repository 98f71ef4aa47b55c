/-
  Several texts in one.
-/
import Derived.Test.YtojiieghjhjoaaaGreatKN31
set_option linter.unusedVariables false
set_option linter.unusedSimpArgs false
namespace Go.Proofs.YtojiieghjhjoaaaGreat
open Go.RowKit Go.MapKept Go.Shelf
open Go.Lib hiding intOf

theorem bare_map (l : List Sg) : (l.filter ncF).map Sg.c = bareF (l.map Sg.c) := by
  unfold bareF
  rw [List.filter_map]
  rfl
theorem bareF_con {l m : List Sg} (h : l.map Sg.c = m.map Sg.c) : (l.filter ncF).map Sg.c = bareF (m.map Sg.c) := by rw [bare_map, h]
/-- a list of segments that a call made, with these words -/
def SegsP (w0 : World) (c : List (Int × List Nat)) (e : Ending) (w' : World) : Prop := ∃ A n cap segs, e = .returned (.slice A n cap) ∧ segs.length = n ∧ segs.map Sg.c = c ∧ SegsO w' w0.heap.size (.slice A n cap) segs ∧ Below w0.heap.size w0 w'
set_option maxHeartbeats 4000000 in
theorem bare_any (A : Option Addr) (cap : Nat) (l : List Sg) (w : World) (h : SegsOk w A cap l) (hsz : ∀ s ∈ l, s.as_.length * 4 ≤ 140737488351232) (hlz : l.length * 32 ≤ 140737488351232) :
    Calls Tryz.prog 29 #[.slice A l.length cap] w (SegsP w (bareF (l.map Sg.c))) := by
  have HC := Lib.hid (clone_any A cap l w h hsz hlz)
  have HD := Lib.hid delseg_any
  clear h hsz hlz
  obtain ⟨POST, hP⟩ : ∃ P, P = SegsP w (bareF (l.map Sg.c)) := ⟨_, rfl⟩
  rw [← hP]
  have HP := Lib.hid hP
  clear hP
  go_enter Tryz.func29, Tryz.ntmps29
  go_wp2_with fail
  refine HC.out.mono ?_
  rintro e w1 ⟨⟨A1, c1, segs, rfl, h1, h2, h3, _⟩, hb1⟩
  have HB1 := Lib.hid hb1
  have H2 := Lib.hid h2
  have H3 : Hid (SegsO w1 w.heap.size (.slice A1 segs.length c1) segs) := by rw [h1]; exact h3
  rw [← h1]
  clear hb1 h2 h3 h1 HC
  go_wp2_with fail
  refine (HD.out A1 c1 segs w.heap.size w1 H3.out HB1.out.size).mono ?_
  rintro e w2 ⟨A2, c2, rfl, h4, h5⟩
  have H4 := Lib.hid h4
  have H5 : Hid (Below w.heap.size w w2) := HB1.out.trans h5
  clear h4 h5
  go_wp2_with fail
  rw [HP.out]
  exact ⟨A2, _, c2, _, rfl, rfl, bareF_con H2.out, H4.out, H5.out⟩
end Go.Proofs.YtojiieghjhjoaaaGreat
