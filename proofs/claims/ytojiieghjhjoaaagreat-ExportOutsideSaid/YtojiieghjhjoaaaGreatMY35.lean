/-
  Several texts in one.
-/
import Derived.Test.YtojiieghjhjoaaaGreatMY33
import Derived.Test.YtojiieghjhjoaaaGreatMY34
set_option linter.unusedVariables false
set_option linter.unusedSimpArgs false
namespace Go.Proofs.YtojiieghjhjoaaaGreat
open Go.RowKit Go.MapKept Go.Shelf
open Go.Lib hiding intOf

theorem nlC_cases (n : Nl) : nlC n = 0 ∨ nlC n = 2 := by unfold nlC; split <;> simp
theorem str_none (s : ByteArray) : s.toList.isEmpty = (s.size == 0) := by
  rw [ByteArray.toList_eq]
  have h : s.data.toList.length = s.size := rfl
  rw [← h]
  cases s.data.toList <;> simp
theorem mayPath_kind {p : Pth} (h1 : nlC p.n = 0) (h2 : atOk p.a.c = true) : mayPathF p = (if p.kind = 1 then p.peer.size == 0 else decide (1 < p.kind) && decide (p.kind ≤ 5) && nameF p.peer) := by
  unfold mayPathF
  rw [h1, h2]
  rfl

set_option maxRecDepth 100000 in
set_option maxHeartbeats 8000000 in
theorem maypath_any (p : Pth) (w : World) (h : PthOk w p) : Calls Tryz.prog 33 #[.agg p.ar] w fun e w' => e = .returned (.bool (mayPathF p)) ∧ Below w.heap.size w w' := by
  obtain ⟨P, hP⟩ : ∃ P, P = mayPathF p := ⟨_, rfl⟩
  rw [← hP]
  have HP := Lib.hid hP
  clear hP
  have HN : Hid (∀ W, Calls Tryz.prog 66 #[p.n.v] W fun e w' => e = .returned (.int .i64 (nlC p.n)) ∧ Below W.heap.size W w') := fun W => ncheck_any p.n h.n W
  have HA : Hid (∀ W, Below w.heap.size w W → Calls Tryz.prog 26 #[.agg p.a.ar] W fun e w' => e = .returned (.int .i64 (okN (atOk p.a.c))) ∧ Below W.heap.size W w') := fun W hW => check_any p.a W (h.a.below hW (Nat.le_refl _))
  have HC := Lib.hid (fun W => polc_any p.peer W)
  clear h
  go_enter Tryz.func33, Tryz.ntmps33
  go_upto_region 1 with fail
  refine rb_name fun V hV => ?_
  obtain ⟨s, hs⟩ : ∃ s, s = w.heap.size := ⟨_, rfl⟩
  have HC0 : Hid (CellsAt V s p.ar 37) := by rw [hV, hs]; exact CellsAt.new _ _ _
  have HB : Hid (Below w.heap.size w V) := by rw [hV]; exact below1 _ _
  rw [← hs]
  have HS : Hid (s = w.heap.size) := hs
  clear hV hs
  obtain ⟨c0, c4, c5, c8, c16, c22, c23, c25⟩ := pth_cells HC0.out
  go_wp2_with (with_reducible show wpList _ _ _ (_ :: _) _ _; first | refine wpList_load_ppf (by kernel_rfl) (.tmp 4) rfl s rfl p HC0 ?_ | refine wpList_build_nlr rfl (.tmp 5) (.tmp 7) (.tmp 9) rfl p.n rfl rfl rfl ?_)
  refine (HN.out _).mono ?_
  rintro e w1 ⟨rfl, hw1⟩
  have HB1 : Hid (Below w.heap.size w w1) := HB.out.trans (hw1.mono HB.out.size)
  have HC1 : Hid (CellsAt w1 s p.ar 37) := HC0.out.below hw1 HC0.out.lt
  clear hw1 c0 c4 c5 c8 c16 c22 c23 c25
  obtain ⟨c0, c4, c5, c8, c16, c22, c23, c25⟩ := pth_cells HC1.out
  rcases nlC_cases p.n with hn | hn
  · rw [hn]
    go_wp2_with (with_reducible show wpList _ _ _ (_ :: _) _ _; refine wpList_load_pat (by kernel_rfl) (.tmp 14) rfl s rfl p HC1 ?_)
    refine (HA.out _ HB1.out).mono ?_
    rintro e w2 ⟨rfl, hw2⟩
    have HB2 : Hid (Below w.heap.size w w2) := HB1.out.trans (hw2.mono HB1.out.size)
    have HC2 : Hid (CellsAt w2 s p.ar 37) := HC1.out.below hw2 HC1.out.lt
    clear hw2 c0 c4 c5 c8 c16 c22 c23 c25
    obtain ⟨c0, c4, c5, c8, c16, c22, c23, c25⟩ := pth_cells HC2.out
    cases ha : atOk p.a.c with
    | false =>
      obtain rfl : P = false := by rw [HP.out]; unfold mayPathF; rw [ha]; simp
      have e1 : okN false = 2 := rfl
      rw [e1]
      clear hn ha
      go_wp2_with fail
      go_ret
      exact ⟨rfl, HB2.out⟩
    | true =>
      have HK : Hid (P = (if p.kind = 1 then p.peer.size == 0 else decide (1 < p.kind) && decide (p.kind ≤ 5) && nameF p.peer)) := HP.out.trans (mayPath_kind hn ha)
      have e1 : okN true = 0 := rfl
      rw [e1]
      clear hn ha HP
      go_upto_region 4 with (with_reducible show wpList _ _ _ (_ :: _) _ _; first | refine wpList_load_pso (by kernel_rfl) (.tmp 19) rfl s rfl p HC2 ?_ | refine wpList_new_row rfl _ (.tmp 3) (.tmp 20) rfl rfl p.so rfl 6 soZ rfl rfl (so_ones p) ?_)
      intro V3 HD3 HB3'
      obtain ⟨q, hq⟩ : ∃ q, q = w2.heap.size := ⟨_, rfl⟩
      have HB3 : Hid (Below w.heap.size w V3) := HB2.out.trans (HB3'.out.mono HB2.out.size)
      rw [← hq] at HD3
      rw [← hq]
      clear hq HB3' c0 c4 c5 c8 c16 c22 c23 c25
      have c22 : V3.cell? ⟨q, 0, none⟩ = some (.int .i64 p.kind) := (HD3.out.c 0).trans rfl
      have c23 : V3.cell? ⟨q, 1, none⟩ = some (.string p.peer) := (HD3.out.c 1).trans rfl
      by_cases hk : p.kind = 1
      · have k1 : (p.kind == 1) = true := beq_iff_eq.2 hk
        have HQ : Hid (P = (p.peer.size == 0)) := HK.out.trans (if_pos hk)
        rw [hk] at c22
        clear hk HK k1
        go_wp2_with fail
        go_ret
        exact ⟨by rw [HQ.out, ← str_none]; rfl, HB3.out⟩
      · have k1 : (p.kind == 1) = false := beq_eq_false_iff_ne.2 hk
        have HQ : Hid (P = (decide (1 < p.kind) && decide (p.kind ≤ 5) && nameF p.peer)) := HK.out.trans (if_neg hk)
        clear hk HK
        by_cases g1 : 1 < p.kind
        · by_cases g2 : p.kind ≤ 5
          · have d1 : decide (1 < p.kind) = true := decide_eq_true g1
            have d2 : decide (p.kind ≤ 5) = true := decide_eq_true g2
            obtain rfl : P = nameF p.peer := by rw [HQ.out, d1, d2]; rfl
            clear HQ
            go_wp2_with fail
            refine (HC.out _).mono ?_
            rintro e w4 ⟨rfl, hw4⟩
            have HB4 : Hid (Below w.heap.size w w4) := HB3.out.trans (hw4.mono HB3.out.size)
            clear hw4
            have e2 : okN true = 0 := rfl
            have e3 : okN false = 2 := rfl
            cases hx : nameF p.peer with
            | true =>
              rw [e2]
              have HX := Lib.hid hx
              clear hx
              go_wp2_with fail
              go_ret
              exact ⟨by rw [HX.out]; rfl, HB4.out⟩
            | false =>
              rw [e3]
              have HX := Lib.hid hx
              clear hx
              go_wp2_with fail
              go_ret
              exact ⟨by rw [HX.out]; rfl, HB4.out⟩
          · have d1 : decide (1 < p.kind) = true := decide_eq_true g1
            have d2 : decide (p.kind ≤ 5) = false := decide_eq_false g2
            obtain rfl : P = false := by rw [HQ.out, d1, d2]; rfl
            clear HQ
            go_wp2_with fail
            go_ret
            exact ⟨rfl, HB3.out⟩
        · have d1 : decide (1 < p.kind) = false := decide_eq_false g1
          obtain rfl : P = false := by rw [HQ.out, d1]; rfl
          clear HQ
          go_wp2_with fail
          go_ret
          exact ⟨rfl, HB3.out⟩
  · obtain rfl : P = false := by rw [HP.out]; unfold mayPathF; rw [hn]; rfl
    rw [hn]
    clear hn HP
    go_wp2_with fail
    go_ret
    exact ⟨rfl, HB1.out⟩
set_option maxRecDepth 100000 in
set_option maxHeartbeats 8000000 in
theorem rmaypath_any (p : Pth) (w : World) (h : PthOk w p) : Calls Tryz.prog 37 #[.agg p.ar] w fun e w' => e = .returned (.bool (mayPathF p)) ∧ Below w.heap.size w w' := by
  obtain ⟨P, hP⟩ : ∃ P, P = mayPathF p := ⟨_, rfl⟩
  rw [← hP]
  have HP := Lib.hid hP
  clear hP
  have HN : Hid (∀ W, Calls Tryz.prog 70 #[p.n.v] W fun e w' => e = .returned (.int .i64 (nlC p.n)) ∧ Below W.heap.size W w') := fun W => r7check_any p.n h.n W
  have HA : Hid (∀ W, Below w.heap.size w W → Calls Tryz.prog 71 #[.agg p.a.ar] W fun e w' => e = .returned (.int .i64 (okN (atOk p.a.c))) ∧ Below W.heap.size W w') := fun W hW => rcheck_any p.a W (h.a.below hW (Nat.le_refl _))
  have HC := Lib.hid (fun W => rname_any p.peer W)
  clear h
  go_enter Tryz.func37, Tryz.ntmps37
  go_upto_region 1 with fail
  refine rb_name fun V hV => ?_
  obtain ⟨s, hs⟩ : ∃ s, s = w.heap.size := ⟨_, rfl⟩
  have HC0 : Hid (CellsAt V s p.ar 37) := by rw [hV, hs]; exact CellsAt.new _ _ _
  have HB : Hid (Below w.heap.size w V) := by rw [hV]; exact below1 _ _
  rw [← hs]
  have HS : Hid (s = w.heap.size) := hs
  clear hV hs
  obtain ⟨c0, c4, c5, c8, c16, c22, c23, c25⟩ := pth_cells HC0.out
  go_wp2_with (with_reducible show wpList _ _ _ (_ :: _) _ _; first | refine wpList_load_ppf (by kernel_rfl) (.tmp 3) rfl s rfl p HC0 ?_ | refine wpList_build_nlr rfl (.tmp 4) (.tmp 6) (.tmp 8) rfl p.n rfl rfl rfl ?_)
  refine (HN.out _).mono ?_
  rintro e w1 ⟨rfl, hw1⟩
  have HB1 : Hid (Below w.heap.size w w1) := HB.out.trans (hw1.mono HB.out.size)
  have HC1 : Hid (CellsAt w1 s p.ar 37) := HC0.out.below hw1 HC0.out.lt
  clear hw1 c0 c4 c5 c8 c16 c22 c23 c25
  obtain ⟨c0, c4, c5, c8, c16, c22, c23, c25⟩ := pth_cells HC1.out
  rcases nlC_cases p.n with hn | hn
  · rw [hn]
    go_wp2_with (with_reducible show wpList _ _ _ (_ :: _) _ _; refine wpList_load_pat (by kernel_rfl) (.tmp 13) rfl s rfl p HC1 ?_)
    refine (HA.out _ HB1.out).mono ?_
    rintro e w2 ⟨rfl, hw2⟩
    have HB2 : Hid (Below w.heap.size w w2) := HB1.out.trans (hw2.mono HB1.out.size)
    have HC2 : Hid (CellsAt w2 s p.ar 37) := HC1.out.below hw2 HC1.out.lt
    clear hw2 c0 c4 c5 c8 c16 c22 c23 c25
    obtain ⟨c0, c4, c5, c8, c16, c22, c23, c25⟩ := pth_cells HC2.out
    cases ha : atOk p.a.c with
    | false =>
      obtain rfl : P = false := by rw [HP.out]; unfold mayPathF; rw [ha]; simp
      have e1 : okN false = 2 := rfl
      rw [e1]
      clear hn ha
      go_wp2_with fail
      go_ret
      exact ⟨rfl, HB2.out⟩
    | true =>
      have HK : Hid (P = (if p.kind = 1 then p.peer.size == 0 else decide (1 < p.kind) && decide (p.kind ≤ 5) && nameF p.peer)) := HP.out.trans (mayPath_kind hn ha)
      have e1 : okN true = 0 := rfl
      rw [e1]
      clear hn ha HP
      by_cases hk : p.kind = 1
      · have k1 : (p.kind == 1) = true := beq_iff_eq.2 hk
        have HQ : Hid (P = (p.peer.size == 0)) := HK.out.trans (if_pos hk)
        rw [hk] at c22
        clear hk HK k1
        go_wp2_with fail
        go_ret
        exact ⟨by rw [HQ.out, ← str_none]; rfl, HB2.out⟩
      · have k1 : (p.kind == 1) = false := beq_eq_false_iff_ne.2 hk
        have HQ : Hid (P = (decide (1 < p.kind) && decide (p.kind ≤ 5) && nameF p.peer)) := HK.out.trans (if_neg hk)
        clear hk HK
        by_cases g1 : 1 < p.kind
        · by_cases g2 : p.kind ≤ 5
          · have d1 : decide (1 < p.kind) = true := decide_eq_true g1
            have d2 : decide (p.kind ≤ 5) = true := decide_eq_true g2
            obtain rfl : P = nameF p.peer := by rw [HQ.out, d1, d2]; rfl
            clear HQ
            go_wp2_with fail
            refine (HC.out _).mono ?_
            rintro e w4 ⟨rfl, hw4⟩
            have HB4 : Hid (Below w.heap.size w w4) := HB2.out.trans (hw4.mono HB2.out.size)
            clear hw4
            go_wp2_with fail
            go_ret
            exact ⟨rfl, HB4.out⟩
          · have d1 : decide (1 < p.kind) = true := decide_eq_true g1
            have d2 : decide (p.kind ≤ 5) = false := decide_eq_false g2
            obtain rfl : P = false := by rw [HQ.out, d1, d2]; rfl
            clear HQ
            go_wp2_with fail
            go_ret
            exact ⟨rfl, HB2.out⟩
        · have d1 : decide (1 < p.kind) = false := decide_eq_false g1
          obtain rfl : P = false := by rw [HQ.out, d1]; rfl
          clear HQ
          go_wp2_with fail
          go_ret
          exact ⟨rfl, HB2.out⟩
  · obtain rfl : P = false := by rw [HP.out]; unfold mayPathF; rw [hn]; rfl
    rw [hn]
    clear hn HP
    go_wp2_with fail
    go_ret
    exact ⟨rfl, HB1.out⟩
end Go.Proofs.YtojiieghjhjoaaaGreat
