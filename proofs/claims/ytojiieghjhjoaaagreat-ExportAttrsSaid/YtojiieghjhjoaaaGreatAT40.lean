/-
  Several texts in one.
-/
import Derived.Test.YtojiieghjhjoaaaGreatAT39
set_option linter.unusedVariables false
set_option linter.unusedSimpArgs false
namespace Go.Proofs.YtojiieghjhjoaaaGreat
open Go.RowKit Go.MapKept Go.Shelf
open Go.Lib hiding intOf

theorem bare_map (l : List Sg) : (l.filter ncF).map Sg.c = bareF (l.map Sg.c) := by
  unfold bareF
  rw [List.filter_map]
  rfl
theorem bareF_con {l m : List Sg} (h : l.map Sg.c = m.map Sg.c) : (l.filter ncF).map Sg.c = bareF (m.map Sg.c) := by rw [bare_map, h]
/-- a list of segments that a call made, with these words -/
def SegsP (w0 : World) (c : List (Int × List Nat)) (e : Ending) (w' : World) : Prop := ∃ A n cap segs, e = .returned (.slice A n cap) ∧ segs.length = n ∧ segs.map Sg.c = c ∧ SegsO w' w0.heap.size (.slice A n cap) segs ∧ Below w0.heap.size w0 w'
set_option maxHeartbeats 4000000 in
theorem bare_any (A : Option Addr) (cap : Nat) (l : List Sg) (w : World) (h : SegsOk w A cap l) (hsz : ∀ s ∈ l, s.as_.length * 4 ≤ 140737488351232) (hlz : l.length * 32 ≤ 140737488351232) :
    Calls Tryz.prog 29 #[.slice A l.length cap] w (SegsP w (bareF (l.map Sg.c))) := by
  have HC := Lib.hid (clone_any A cap l w h hsz hlz)
  have HD := Lib.hid delseg_any
  clear h hsz hlz
  obtain ⟨POST, hP⟩ : ∃ P, P = SegsP w (bareF (l.map Sg.c)) := ⟨_, rfl⟩
  rw [← hP]
  have HP := Lib.hid hP
  clear hP
  go_enter Tryz.func29, Tryz.ntmps29
  go_wp2_with fail
  refine HC.out.mono ?_
  rintro e w1 ⟨⟨A1, c1, segs, rfl, h1, h2, h3, _⟩, hb1⟩
  have HB1 := Lib.hid hb1
  have H2 := Lib.hid h2
  have H3 : Hid (SegsO w1 w.heap.size (.slice A1 segs.length c1) segs) := by rw [h1]; exact h3
  rw [← h1]
  clear hb1 h2 h3 h1 HC
  go_wp2_with fail
  refine (HD.out A1 c1 segs w.heap.size w1 H3.out HB1.out.size).mono ?_
  rintro e w2 ⟨A2, c2, rfl, h4, h5⟩
  have H4 := Lib.hid h4
  have H5 : Hid (Below w.heap.size w w2) := HB1.out.trans h5
  clear h4 h5
  go_wp2_with fail
  rw [HP.out]
  exact ⟨A2, _, c2, _, rfl, rfl, bareF_con H2.out, H4.out, H5.out⟩
theorem bare_take {l : List Sg} {k : Nat} {s : Sg} (h : l[k]? = some s) : bareF ((l.take (k + 1)).map Sg.c) = bareF ((l.take k).map Sg.c) ++ (if conF s.kind = true then [] else [s.c]) := by
  rw [take_snoc h, List.map_append]
  unfold bareF
  rw [List.filter_append]
  congr 1
  have e : (!(s.c.1 == 3 || s.c.1 == 4)) = !conF s.kind := rfl
  by_cases hc : conF s.kind = true
  · rw [if_pos hc]
    simp only [List.map_cons, List.map_nil, List.filter_cons, e, hc]
    rfl
  · rw [if_neg hc]
    have hc := Bool.eq_false_iff.2 hc
    simp only [List.map_cons, List.map_nil, List.filter_cons, e, hc]
    rfl
set_option maxRecDepth 100000 in
set_option maxHeartbeats 8000000 in
theorem rbare_any (A : Option Addr) (cap : Nat) (l : List Sg) (w : World) (h : SegsOk w A cap l) (hsz : ∀ s ∈ l, s.as_.length * 4 ≤ 140737488351232) (hlz : l.length * 32 ≤ 140737488351232) :
    Calls Tryz.prog 80 #[.slice A l.length cap] w (SegsP w (bareF (l.map Sg.c))) := by
  obtain ⟨i1, hi, hz0, hz1, hz2⟩ := info_parts inSeg
  have HI := Lib.hid hi
  have HZ0 := Lib.hid hz0
  have HZ1 := Lib.hid hz1
  have HZ2 := Lib.hid hz2
  clear hi hz0 hz1 hz2
  have HR := Lib.hid h
  have HSZ := Lib.hid hsz
  have hl : l.length ≤ cap := h.len
  have hc : cap ≤ 9223372036854775807 := h.cap
  have HOWN := Lib.hid rown_seg
  have HCF := Lib.hid rconfed_any
  clear h hsz
  obtain ⟨POST, hP⟩ : ∃ P, P = SegsP w (bareF (l.map Sg.c)) := ⟨_, rfl⟩
  rw [← hP]
  have HP := Lib.hid hP
  clear hP
  go_enter Tryz.func80, Tryz.ntmps80
  go_wp2_with fail
  go_loopw [3, 4] (fun v i wr => ∃ (k m : Nat) (A2 : Option Addr) (c2 : Nat) (segs : List Sg), v = .slice A2 m c2 ∧ i = .int .i64 k ∧ k ≤ l.length ∧ m ≤ k ∧ Hid (segs.length = m) ∧ Hid (segs.map Sg.c = bareF ((l.take k).map Sg.c)) ∧ Hid (SegsO wr w.heap.size (.slice A2 m c2) segs) ∧ Hid (Below w.heap.size w wr)) (fun _ i _ => l.length + 1 - (intOf i).toNat)
  case atStart => exact ⟨0, 0, none, 0, [], rfl, rfl, by omega, by omega, rfl, rfl, SegsO.nil _ _, Below.refl _ _⟩
  case round =>
    obtain ⟨k, m, A2, c2, segs, rfl, rfl, hk, hmk, HL, HC, HO, HB⟩ := hrel
    by_cases hlt : k < l.length
    · obtain ⟨s, hx⟩ : ∃ s, l[k]? = some s := ⟨l[k], List.getElem?_eq_getElem hlt⟩
      have hmem := List.mem_of_getElem? hx
      obtain ⟨b1, o1, rfl, hb1, q0, q1⟩ := sg_cells (HR.out.below HB.out (Nat.le_refl _)).rd hx
      have HTK := Lib.hid (bare_take hx)
      have HSS := Lib.hid ((HR.out.segs s hmem).below HB.out (Nat.le_refl _))
      have HZS := Lib.hid (HSZ.out s hmem)
      have HKF := Lib.hid (HR.out.segs s hmem).kfit
      have HFT := Lib.hid (HR.out.segs s hmem).fits
      clear hx hmem
      go_wp2_with fail
      refine (HCF.out s.kind _).mono ?_
      rintro e w1 ⟨rfl, hw1⟩
      subst w1
      cases hcf : conF s.kind with
      | true =>
        have HC2 : Hid (segs.map Sg.c = bareF ((l.take (k + 1)).map Sg.c)) := by show _ = _; rw [HTK.out, if_pos hcf, List.append_nil]; exact HC.out
        clear hcf
        go_wp2_with fail
        exact ⟨⟨k + 1, m, A2, c2, segs, rfl, by go_num, by omega, by omega, HL.out, HC2.out, HO.out, HB.out⟩, by simp [intOf]; omega⟩
      | false =>
        have HC2 : Hid ((segs.map Sg.c) ++ [s.c] = bareF ((l.take (k + 1)).map Sg.c)) := by show _ = _; rw [HTK.out, if_neg (by rw [hcf]; simp), HC.out]
        clear hcf HTK HC
        go_wp2_with fail
        refine (HOWN.out s _ HSS.out HZS.out).mono ?_
        rintro e w2 ⟨⟨A3, c3, rfl, ho2⟩, hb2⟩
        have hs1 := HB.out.size
        have HA2 : Hid (OwnL w2 w.heap.size 22 1 u1 (.slice A3 s.as_.length c3) s.as_) := OwnM.lower ho2 hs1
        have HO2 : Hid (SegsO w2 w.heap.size (.slice A2 m c2) segs) := HO.out.keep (fun i h1 h2 => hb2.block i h2)
        have HB2 : Hid (Below w.heap.size w w2) := HB.out.trans (hb2.mono hs1)
        have hs2 := HB2.out.size
        clear ho2 hb2 HO HB HSS q0 q1
        have HCB : Hid (CellsAt (w2.alloc (.cells #[.int .i64 s.kind, .slice A3 s.as_.length c3] 67)) w2.heap.size #[.int .i64 s.kind, .slice A3 s.as_.length c3] 67) := CellsAt.new _ _ _
        have HSR := Lib.hid (Src.block (P := Tryz.prog) (t2 := 28) (size := 2) (m := 1) (c := 1) Tryz.underlying28 HCB.out rfl (by simp [Value.oneCell']))
        have HOa : Hid (SegsO (w2.alloc (.cells #[.int .i64 s.kind, .slice A3 s.as_.length c3] 67)) w.heap.size (.slice A2 m c2) segs) := HO2.out.keep (fun i h1 h2 => Below.heap_alloc _ _ _ h2)
        have HAa := Lib.hid (HA2.out.alloc (.cells #[.int .i64 s.kind, .slice A3 s.as_.length c3] 67))
        have HBa : Hid (Below w.heap.size w (w2.alloc (.cells #[.int .i64 s.kind, .slice A3 s.as_.length c3] 67))) := HB2.out.alloc hs2 _
        have HBS : Hid (w.heap.size ≤ (w2.alloc (.cells #[.int .i64 s.kind, .slice A3 s.as_.length c3] 67)).heap.size) := by show _ ≤ _; simp; omega
        have HM : Hid (m + 1 ≤ maxLen) := by show _ ≤ _; unfold maxLen; omega
        have HY : Hid ((m + 1) * 32 ≤ 140737488355328) := by show _ ≤ _; omega
        go_wp2_with (at_builtin; refine wpList_append_m rfl (.tmp 18) (.tmp 24) 28 28 rfl w.heap.size 67 i1 _ 2 32 Tryz.underlying28 HI.out HZ0.out HZ1.out HZ2.out rfl (by decide) (.slice A2 m c2) m (segs.flatMap Sg.cs) rfl (by have h := HOa.out.own; unfold OwnL at h; rwa [HL.out] at h) _ 1 _ rfl HSR.out HM.out HY.out HBS.out ?_)
        intro v' w5 hown hgr hat
        obtain ⟨A6, c6, rfl⟩ := hown.form
        have HN5 : Hid (SegsO w5 w.heap.size (.slice A6 (m + 1) c6) (segs ++ [(⟨s.kind, A3, s.as_, c3⟩ : Sg)])) := ⟨OwnL.snoc (by rw [HL.out]; exact hown), fun q hq => by
          rcases List.mem_append.1 hq with hq | hq
          · obtain ⟨q1, q2⟩ := HOa.out.as_ q hq
            exact ⟨OwnM.grown q1 hgr (own_ne q1 HOa.out.own (by decide)), q2⟩
          · obtain rfl := List.mem_singleton.1 hq
            exact ⟨OwnM.grown HAa.out hgr (own_ne HAa.out HOa.out.own (by decide)), HFT.out, HKF.out⟩⟩
        have HB5 : Hid (Below w.heap.size w w5) := OwnM.below_grown HOa.out.own hgr HBa.out (by have := HBa.out.size; exact this) (by omega)
        clear hown hgr hat
        go_wp2_with fail
        exact ⟨⟨k + 1, m + 1, A6, c6, segs ++ [(⟨s.kind, A3, s.as_, c3⟩ : Sg)], rfl, by go_num, by omega, by omega, by show _ = _; rw [List.length_append, HL.out]; rfl, by show _ = _; rw [List.map_append, ← HC2.out]; rfl, HN5.out, HB5.out⟩, by simp [intOf]; omega⟩
    · obtain rfl : k = l.length := by omega
      go_wp2_with fail
      rw [HP.out]
      refine ⟨A2, m, c2, segs, rfl, HL.out, ?_, HO.out, HB.out⟩
      rw [HC.out, List.take_length]
end Go.Proofs.YtojiieghjhjoaaaGreat
