/-
  Several texts in one.
-/
import Derived.Test.YtojiieghjhjoaaaGreatMY13
set_option linter.unusedVariables false
set_option linter.unusedSimpArgs false
namespace Go.Proofs.YtojiieghjhjoaaaGreat
open Go.RowKit Go.MapKept Go.Shelf
open Go.Lib hiding intOf

set_option maxRecDepth 100000 in
set_option maxHeartbeats 16000000 in
theorem rcheck_any (a : Atr) (w : World) (h : AtrOk w a) :
    Calls Tryz.prog 71 #[a.v] w fun e w' => e = .returned (.int .i64 (okN (atOk a.c))) ∧ Below w.heap.size w w' := by
  have HB0 : Hid (Below w.heap.size w (w.alloc (.cells a.ar 33))) := (Below.refl _ _).alloc (Nat.le_refl _) _
  have HC0 : Hid (CellsAt (w.alloc (.cells a.ar 33)) w.heap.size a.ar 33) := CellsAt.new _ _ _
  have HOK : Hid (AtrOk (w.alloc (.cells a.ar 33)) a) := h.below HB0.out (Nat.le_refl _)
  have HP : Hid (∀ W, SegsOk W a.pA a.pC a.segs → Calls Tryz.prog 81 #[.slice a.pA a.segs.length a.pC] W fun e w' => e = .returned (.int .i64 (okN (pathOk (a.segs.map Sg.c)))) ∧ W = w') := fun W h => rpcheck_any _ _ _ _ h
  have HR1 : Hid (∀ W, AtrOk W a → Calls Tryz.prog 97 #[.slice a.mA a.comms.length a.mC] W fun e w' => e = .returned (.bool (riseB ltN a.comms)) ∧ Below W.heap.size W w') := fun W h => rrise_any _ _ _ _ h.mrd h.mlen h.mcap
  have HLL := Lib.hid lless_any
  have hn := h.next
  have hm0 : a.comms.length ≤ 9223372036854775807 := Nat.le_trans h.mlen h.mcap
  have hx0 : a.exts.length ≤ 9223372036854775807 := Nat.le_trans h.xlen h.xcap
  have hl0 : a.larges.length ≤ 9223372036854775807 := Nat.le_trans h.llen h.lcap
  have hk1 : a.clus.length ≤ 9223372036854775807 := Nat.le_trans h.klen h.kcap
  have hxc : a.exts.length ≤ a.xC := h.xlen
  have hlc : a.larges.length ≤ a.lC := h.llen
  have hxm : a.xC ≤ 9223372036854775807 := h.xcap
  have hlm : a.lC ≤ 9223372036854775807 := h.lcap
  clear h
  have HE := Lib.hid (atOk_parts a)
  generalize atOk a.c = res at HE ⊢
  unfold Atr.v
  go_enter Tryz.func71, Tryz.ntmps71
  generalize pathOk (a.segs.map Sg.c) = d1 at HE HP
  generalize riseB ltN a.comms = r1 at HE HR1
  obtain ⟨r2, hr2⟩ : ∃ r, r = riseB ltN a.exts := ⟨_, rfl⟩
  obtain ⟨r3, hr3⟩ : ∃ r, r = riseB ltL a.larges := ⟨_, rfl⟩
  obtain ⟨dn, hdn⟩ : ∃ dn, dn = nextOk a.next := ⟨_, rfl⟩
  obtain ⟨s0, hs0⟩ : ∃ s, s = (needs a.hasMed a.med && needs a.hasPref a.pref && needs a.hasOrig a.orig && needs (!(a.aggAs == 0)) a.aggId) := ⟨_, rfl⟩
  rw [← hdn, ← hs0, ← hr2, ← hr3] at HE
  have HDN := Lib.hid hdn
  have HS0 := Lib.hid hs0
  have HR2 := Lib.hid hr2
  have HR3 := Lib.hid hr3
  clear hdn hs0 hr2 hr3
  go_upto_region 1 with fail
  generalize w.alloc (.cells a.ar 33) = W at HB0 HC0 HOK ⊢
  have hsW := HB0.out.size
  have hlt := HC0.out.lt
  obtain ⟨c0, c1, c2, c3, c4, c5, c6, c7, c8, c9, c10, c11, c12, c13, c14, c15⟩ := atr_cells HC0.out
  go_cut [3] (fun s wx => s = .bool dn ∧ wx = W)
  case first =>
    by_cases q0 : a.next.size = 0
    · have z0 : ((a.next.size : Int) == 0) = true := beq_iff_eq.2 (by omega)
      have HN : Hid (dn = true) := by show _ = _; rw [HDN.out]; unfold nextOk; simp [q0]
      clear q0
      go_wp2_with fail
      go_meet
      exact ⟨by rw [HN.out], rfl⟩
    · have z0 : ((a.next.size : Int) == 0) = false := beq_eq_false_iff_ne.2 (by omega)
      by_cases q4 : a.next.size = 4
      · have z4 : ((a.next.size : Int) == 4) = true := beq_iff_eq.2 (by omega)
        have HN : Hid (dn = true) := by show _ = _; rw [HDN.out]; unfold nextOk; simp [q4]
        clear q0 q4
        go_wp2_with fail
        go_meet
        exact ⟨by rw [HN.out], rfl⟩
      · have z4 : ((a.next.size : Int) == 4) = false := beq_eq_false_iff_ne.2 (by omega)
        by_cases q5 : a.next.size = 16
        · have z5 : ((a.next.size : Int) == 16) = true := beq_iff_eq.2 (by omega)
          have HN : Hid (dn = true) := by show _ = _; rw [HDN.out]; unfold nextOk; simp [q5]
          clear q0 q4 q5
          go_wp2_with fail
          go_meet
          exact ⟨by rw [HN.out], rfl⟩
        · have z5 : ((a.next.size : Int) == 16) = false := beq_eq_false_iff_ne.2 (by omega)
          have HN : Hid (dn = false) := by show _ = _; rw [HDN.out]; unfold nextOk; simp [q0, q4, q5]
          clear q0 q4 q5
          go_wp2_with fail
          go_meet
          exact ⟨by rw [HN.out], rfl⟩
  case rest =>
  obtain ⟨rfl, rfl⟩ := hcut
  go_upto_region 2 with fail
  go_cut [4] (fun s wx => s = .bool (!s0) ∧ wx = wc)
  case first =>
    clear HE HP HR1 HLL HDN HR2 HR3 HB0 HC0 HOK hsW hlt c0 c1 c2 c7 c10 c11 c12 c15 hn hm0 hx0 hl0 hk1 hxc hlc hxm hlm
    cases hh0 : a.hasMed with
    | true =>
      rw [hh0] at c3
      cases hh1 : a.hasPref with
      | true =>
        rw [hh1] at c5
        cases hh2 : a.hasOrig with
        | true =>
          rw [hh2] at c13
          by_cases q3 : a.aggAs = 0
          · have y3 : ((a.aggAs : Int) == 0) = true := beq_iff_eq.2 (by omega)
            by_cases q4 : a.aggId = 0
            · have y4 : ((a.aggId : Int) != 0) = false := by simp [q4]
              have HN : Hid (s0 = true) := by show _ = _; rw [HS0.out]; (try rw [hh0]); (try rw [hh1]); (try rw [hh2]); unfold needs; simp [*]
              clear HS0
              (try clear hh0); (try clear hh1); (try clear hh2); (try clear q0); (try clear q1); (try clear q2); (try clear q3); (try clear q4)
              as_aux_lemma =>
                go_wp2_with fail
                go_meet
                exact ⟨by rw [HN.out]; rfl, rfl⟩
            · have y4 : ((a.aggId : Int) != 0) = true := bne_iff_ne.2 (by omega)
              have HN : Hid (s0 = false) := by show _ = _; rw [HS0.out]; (try rw [hh0]); (try rw [hh1]); (try rw [hh2]); unfold needs; simp [*]
              clear HS0
              (try clear hh0); (try clear hh1); (try clear hh2); (try clear q0); (try clear q1); (try clear q2); (try clear q3); (try clear q4)
              as_aux_lemma =>
                go_wp2_with fail
                go_meet
                exact ⟨by rw [HN.out]; rfl, rfl⟩
          · have y3 : ((a.aggAs : Int) == 0) = false := beq_eq_false_iff_ne.2 (by omega)
            have HN : Hid (s0 = true) := by show _ = _; rw [HS0.out]; (try rw [hh0]); (try rw [hh1]); (try rw [hh2]); unfold needs; simp [*]
            clear HS0
            (try clear hh0); (try clear hh1); (try clear hh2); (try clear q0); (try clear q1); (try clear q2); (try clear q3); (try clear q4)
            as_aux_lemma =>
              go_wp2_with fail
              go_meet
              exact ⟨by rw [HN.out]; rfl, rfl⟩
        | false =>
          rw [hh2] at c13
          by_cases q2 : a.orig = 0
          · have y2 : ((a.orig : Int) != 0) = false := by simp [q2]
            by_cases q3 : a.aggAs = 0
            · have y3 : ((a.aggAs : Int) == 0) = true := beq_iff_eq.2 (by omega)
              by_cases q4 : a.aggId = 0
              · have y4 : ((a.aggId : Int) != 0) = false := by simp [q4]
                have HN : Hid (s0 = true) := by show _ = _; rw [HS0.out]; (try rw [hh0]); (try rw [hh1]); (try rw [hh2]); unfold needs; simp [*]
                clear HS0
                (try clear hh0); (try clear hh1); (try clear hh2); (try clear q0); (try clear q1); (try clear q2); (try clear q3); (try clear q4)
                as_aux_lemma =>
                  go_wp2_with fail
                  go_meet
                  exact ⟨by rw [HN.out]; rfl, rfl⟩
              · have y4 : ((a.aggId : Int) != 0) = true := bne_iff_ne.2 (by omega)
                have HN : Hid (s0 = false) := by show _ = _; rw [HS0.out]; (try rw [hh0]); (try rw [hh1]); (try rw [hh2]); unfold needs; simp [*]
                clear HS0
                (try clear hh0); (try clear hh1); (try clear hh2); (try clear q0); (try clear q1); (try clear q2); (try clear q3); (try clear q4)
                as_aux_lemma =>
                  go_wp2_with fail
                  go_meet
                  exact ⟨by rw [HN.out]; rfl, rfl⟩
            · have y3 : ((a.aggAs : Int) == 0) = false := beq_eq_false_iff_ne.2 (by omega)
              have HN : Hid (s0 = true) := by show _ = _; rw [HS0.out]; (try rw [hh0]); (try rw [hh1]); (try rw [hh2]); unfold needs; simp [*]
              clear HS0
              (try clear hh0); (try clear hh1); (try clear hh2); (try clear q0); (try clear q1); (try clear q2); (try clear q3); (try clear q4)
              as_aux_lemma =>
                go_wp2_with fail
                go_meet
                exact ⟨by rw [HN.out]; rfl, rfl⟩
          · have y2 : ((a.orig : Int) != 0) = true := bne_iff_ne.2 (by omega)
            have HN : Hid (s0 = false) := by show _ = _; rw [HS0.out]; (try rw [hh0]); (try rw [hh1]); (try rw [hh2]); unfold needs; simp [*]
            clear HS0
            (try clear hh0); (try clear hh1); (try clear hh2); (try clear q0); (try clear q1); (try clear q2); (try clear q3); (try clear q4)
            as_aux_lemma =>
              go_wp2_with fail
              go_meet
              exact ⟨by rw [HN.out]; rfl, rfl⟩
      | false =>
        rw [hh1] at c5
        by_cases q1 : a.pref = 0
        · have y1 : ((a.pref : Int) != 0) = false := by simp [q1]
          cases hh2 : a.hasOrig with
          | true =>
            rw [hh2] at c13
            by_cases q3 : a.aggAs = 0
            · have y3 : ((a.aggAs : Int) == 0) = true := beq_iff_eq.2 (by omega)
              by_cases q4 : a.aggId = 0
              · have y4 : ((a.aggId : Int) != 0) = false := by simp [q4]
                have HN : Hid (s0 = true) := by show _ = _; rw [HS0.out]; (try rw [hh0]); (try rw [hh1]); (try rw [hh2]); unfold needs; simp [*]
                clear HS0
                (try clear hh0); (try clear hh1); (try clear hh2); (try clear q0); (try clear q1); (try clear q2); (try clear q3); (try clear q4)
                as_aux_lemma =>
                  go_wp2_with fail
                  go_meet
                  exact ⟨by rw [HN.out]; rfl, rfl⟩
              · have y4 : ((a.aggId : Int) != 0) = true := bne_iff_ne.2 (by omega)
                have HN : Hid (s0 = false) := by show _ = _; rw [HS0.out]; (try rw [hh0]); (try rw [hh1]); (try rw [hh2]); unfold needs; simp [*]
                clear HS0
                (try clear hh0); (try clear hh1); (try clear hh2); (try clear q0); (try clear q1); (try clear q2); (try clear q3); (try clear q4)
                as_aux_lemma =>
                  go_wp2_with fail
                  go_meet
                  exact ⟨by rw [HN.out]; rfl, rfl⟩
            · have y3 : ((a.aggAs : Int) == 0) = false := beq_eq_false_iff_ne.2 (by omega)
              have HN : Hid (s0 = true) := by show _ = _; rw [HS0.out]; (try rw [hh0]); (try rw [hh1]); (try rw [hh2]); unfold needs; simp [*]
              clear HS0
              (try clear hh0); (try clear hh1); (try clear hh2); (try clear q0); (try clear q1); (try clear q2); (try clear q3); (try clear q4)
              as_aux_lemma =>
                go_wp2_with fail
                go_meet
                exact ⟨by rw [HN.out]; rfl, rfl⟩
          | false =>
            rw [hh2] at c13
            by_cases q2 : a.orig = 0
            · have y2 : ((a.orig : Int) != 0) = false := by simp [q2]
              by_cases q3 : a.aggAs = 0
              · have y3 : ((a.aggAs : Int) == 0) = true := beq_iff_eq.2 (by omega)
                by_cases q4 : a.aggId = 0
                · have y4 : ((a.aggId : Int) != 0) = false := by simp [q4]
                  have HN : Hid (s0 = true) := by show _ = _; rw [HS0.out]; (try rw [hh0]); (try rw [hh1]); (try rw [hh2]); unfold needs; simp [*]
                  clear HS0
                  (try clear hh0); (try clear hh1); (try clear hh2); (try clear q0); (try clear q1); (try clear q2); (try clear q3); (try clear q4)
                  as_aux_lemma =>
                    go_wp2_with fail
                    go_meet
                    exact ⟨by rw [HN.out]; rfl, rfl⟩
                · have y4 : ((a.aggId : Int) != 0) = true := bne_iff_ne.2 (by omega)
                  have HN : Hid (s0 = false) := by show _ = _; rw [HS0.out]; (try rw [hh0]); (try rw [hh1]); (try rw [hh2]); unfold needs; simp [*]
                  clear HS0
                  (try clear hh0); (try clear hh1); (try clear hh2); (try clear q0); (try clear q1); (try clear q2); (try clear q3); (try clear q4)
                  as_aux_lemma =>
                    go_wp2_with fail
                    go_meet
                    exact ⟨by rw [HN.out]; rfl, rfl⟩
              · have y3 : ((a.aggAs : Int) == 0) = false := beq_eq_false_iff_ne.2 (by omega)
                have HN : Hid (s0 = true) := by show _ = _; rw [HS0.out]; (try rw [hh0]); (try rw [hh1]); (try rw [hh2]); unfold needs; simp [*]
                clear HS0
                (try clear hh0); (try clear hh1); (try clear hh2); (try clear q0); (try clear q1); (try clear q2); (try clear q3); (try clear q4)
                as_aux_lemma =>
                  go_wp2_with fail
                  go_meet
                  exact ⟨by rw [HN.out]; rfl, rfl⟩
            · have y2 : ((a.orig : Int) != 0) = true := bne_iff_ne.2 (by omega)
              have HN : Hid (s0 = false) := by show _ = _; rw [HS0.out]; (try rw [hh0]); (try rw [hh1]); (try rw [hh2]); unfold needs; simp [*]
              clear HS0
              (try clear hh0); (try clear hh1); (try clear hh2); (try clear q0); (try clear q1); (try clear q2); (try clear q3); (try clear q4)
              as_aux_lemma =>
                go_wp2_with fail
                go_meet
                exact ⟨by rw [HN.out]; rfl, rfl⟩
        · have y1 : ((a.pref : Int) != 0) = true := bne_iff_ne.2 (by omega)
          have HN : Hid (s0 = false) := by show _ = _; rw [HS0.out]; (try rw [hh0]); (try rw [hh1]); (try rw [hh2]); unfold needs; simp [*]
          clear HS0
          (try clear hh0); (try clear hh1); (try clear hh2); (try clear q0); (try clear q1); (try clear q2); (try clear q3); (try clear q4)
          as_aux_lemma =>
            go_wp2_with fail
            go_meet
            exact ⟨by rw [HN.out]; rfl, rfl⟩
    | false =>
      rw [hh0] at c3
      by_cases q0 : a.med = 0
      · have y0 : ((a.med : Int) != 0) = false := by simp [q0]
        cases hh1 : a.hasPref with
        | true =>
          rw [hh1] at c5
          cases hh2 : a.hasOrig with
          | true =>
            rw [hh2] at c13
            by_cases q3 : a.aggAs = 0
            · have y3 : ((a.aggAs : Int) == 0) = true := beq_iff_eq.2 (by omega)
              by_cases q4 : a.aggId = 0
              · have y4 : ((a.aggId : Int) != 0) = false := by simp [q4]
                have HN : Hid (s0 = true) := by show _ = _; rw [HS0.out]; (try rw [hh0]); (try rw [hh1]); (try rw [hh2]); unfold needs; simp [*]
                clear HS0
                (try clear hh0); (try clear hh1); (try clear hh2); (try clear q0); (try clear q1); (try clear q2); (try clear q3); (try clear q4)
                as_aux_lemma =>
                  go_wp2_with fail
                  go_meet
                  exact ⟨by rw [HN.out]; rfl, rfl⟩
              · have y4 : ((a.aggId : Int) != 0) = true := bne_iff_ne.2 (by omega)
                have HN : Hid (s0 = false) := by show _ = _; rw [HS0.out]; (try rw [hh0]); (try rw [hh1]); (try rw [hh2]); unfold needs; simp [*]
                clear HS0
                (try clear hh0); (try clear hh1); (try clear hh2); (try clear q0); (try clear q1); (try clear q2); (try clear q3); (try clear q4)
                as_aux_lemma =>
                  go_wp2_with fail
                  go_meet
                  exact ⟨by rw [HN.out]; rfl, rfl⟩
            · have y3 : ((a.aggAs : Int) == 0) = false := beq_eq_false_iff_ne.2 (by omega)
              have HN : Hid (s0 = true) := by show _ = _; rw [HS0.out]; (try rw [hh0]); (try rw [hh1]); (try rw [hh2]); unfold needs; simp [*]
              clear HS0
              (try clear hh0); (try clear hh1); (try clear hh2); (try clear q0); (try clear q1); (try clear q2); (try clear q3); (try clear q4)
              as_aux_lemma =>
                go_wp2_with fail
                go_meet
                exact ⟨by rw [HN.out]; rfl, rfl⟩
          | false =>
            rw [hh2] at c13
            by_cases q2 : a.orig = 0
            · have y2 : ((a.orig : Int) != 0) = false := by simp [q2]
              by_cases q3 : a.aggAs = 0
              · have y3 : ((a.aggAs : Int) == 0) = true := beq_iff_eq.2 (by omega)
                by_cases q4 : a.aggId = 0
                · have y4 : ((a.aggId : Int) != 0) = false := by simp [q4]
                  have HN : Hid (s0 = true) := by show _ = _; rw [HS0.out]; (try rw [hh0]); (try rw [hh1]); (try rw [hh2]); unfold needs; simp [*]
                  clear HS0
                  (try clear hh0); (try clear hh1); (try clear hh2); (try clear q0); (try clear q1); (try clear q2); (try clear q3); (try clear q4)
                  as_aux_lemma =>
                    go_wp2_with fail
                    go_meet
                    exact ⟨by rw [HN.out]; rfl, rfl⟩
                · have y4 : ((a.aggId : Int) != 0) = true := bne_iff_ne.2 (by omega)
                  have HN : Hid (s0 = false) := by show _ = _; rw [HS0.out]; (try rw [hh0]); (try rw [hh1]); (try rw [hh2]); unfold needs; simp [*]
                  clear HS0
                  (try clear hh0); (try clear hh1); (try clear hh2); (try clear q0); (try clear q1); (try clear q2); (try clear q3); (try clear q4)
                  as_aux_lemma =>
                    go_wp2_with fail
                    go_meet
                    exact ⟨by rw [HN.out]; rfl, rfl⟩
              · have y3 : ((a.aggAs : Int) == 0) = false := beq_eq_false_iff_ne.2 (by omega)
                have HN : Hid (s0 = true) := by show _ = _; rw [HS0.out]; (try rw [hh0]); (try rw [hh1]); (try rw [hh2]); unfold needs; simp [*]
                clear HS0
                (try clear hh0); (try clear hh1); (try clear hh2); (try clear q0); (try clear q1); (try clear q2); (try clear q3); (try clear q4)
                as_aux_lemma =>
                  go_wp2_with fail
                  go_meet
                  exact ⟨by rw [HN.out]; rfl, rfl⟩
            · have y2 : ((a.orig : Int) != 0) = true := bne_iff_ne.2 (by omega)
              have HN : Hid (s0 = false) := by show _ = _; rw [HS0.out]; (try rw [hh0]); (try rw [hh1]); (try rw [hh2]); unfold needs; simp [*]
              clear HS0
              (try clear hh0); (try clear hh1); (try clear hh2); (try clear q0); (try clear q1); (try clear q2); (try clear q3); (try clear q4)
              as_aux_lemma =>
                go_wp2_with fail
                go_meet
                exact ⟨by rw [HN.out]; rfl, rfl⟩
        | false =>
          rw [hh1] at c5
          by_cases q1 : a.pref = 0
          · have y1 : ((a.pref : Int) != 0) = false := by simp [q1]
            cases hh2 : a.hasOrig with
            | true =>
              rw [hh2] at c13
              by_cases q3 : a.aggAs = 0
              · have y3 : ((a.aggAs : Int) == 0) = true := beq_iff_eq.2 (by omega)
                by_cases q4 : a.aggId = 0
                · have y4 : ((a.aggId : Int) != 0) = false := by simp [q4]
                  have HN : Hid (s0 = true) := by show _ = _; rw [HS0.out]; (try rw [hh0]); (try rw [hh1]); (try rw [hh2]); unfold needs; simp [*]
                  clear HS0
                  (try clear hh0); (try clear hh1); (try clear hh2); (try clear q0); (try clear q1); (try clear q2); (try clear q3); (try clear q4)
                  as_aux_lemma =>
                    go_wp2_with fail
                    go_meet
                    exact ⟨by rw [HN.out]; rfl, rfl⟩
                · have y4 : ((a.aggId : Int) != 0) = true := bne_iff_ne.2 (by omega)
                  have HN : Hid (s0 = false) := by show _ = _; rw [HS0.out]; (try rw [hh0]); (try rw [hh1]); (try rw [hh2]); unfold needs; simp [*]
                  clear HS0
                  (try clear hh0); (try clear hh1); (try clear hh2); (try clear q0); (try clear q1); (try clear q2); (try clear q3); (try clear q4)
                  as_aux_lemma =>
                    go_wp2_with fail
                    go_meet
                    exact ⟨by rw [HN.out]; rfl, rfl⟩
              · have y3 : ((a.aggAs : Int) == 0) = false := beq_eq_false_iff_ne.2 (by omega)
                have HN : Hid (s0 = true) := by show _ = _; rw [HS0.out]; (try rw [hh0]); (try rw [hh1]); (try rw [hh2]); unfold needs; simp [*]
                clear HS0
                (try clear hh0); (try clear hh1); (try clear hh2); (try clear q0); (try clear q1); (try clear q2); (try clear q3); (try clear q4)
                as_aux_lemma =>
                  go_wp2_with fail
                  go_meet
                  exact ⟨by rw [HN.out]; rfl, rfl⟩
            | false =>
              rw [hh2] at c13
              by_cases q2 : a.orig = 0
              · have y2 : ((a.orig : Int) != 0) = false := by simp [q2]
                by_cases q3 : a.aggAs = 0
                · have y3 : ((a.aggAs : Int) == 0) = true := beq_iff_eq.2 (by omega)
                  by_cases q4 : a.aggId = 0
                  · have y4 : ((a.aggId : Int) != 0) = false := by simp [q4]
                    have HN : Hid (s0 = true) := by show _ = _; rw [HS0.out]; (try rw [hh0]); (try rw [hh1]); (try rw [hh2]); unfold needs; simp [*]
                    clear HS0
                    (try clear hh0); (try clear hh1); (try clear hh2); (try clear q0); (try clear q1); (try clear q2); (try clear q3); (try clear q4)
                    as_aux_lemma =>
                      go_wp2_with fail
                      go_meet
                      exact ⟨by rw [HN.out]; rfl, rfl⟩
                  · have y4 : ((a.aggId : Int) != 0) = true := bne_iff_ne.2 (by omega)
                    have HN : Hid (s0 = false) := by show _ = _; rw [HS0.out]; (try rw [hh0]); (try rw [hh1]); (try rw [hh2]); unfold needs; simp [*]
                    clear HS0
                    (try clear hh0); (try clear hh1); (try clear hh2); (try clear q0); (try clear q1); (try clear q2); (try clear q3); (try clear q4)
                    as_aux_lemma =>
                      go_wp2_with fail
                      go_meet
                      exact ⟨by rw [HN.out]; rfl, rfl⟩
                · have y3 : ((a.aggAs : Int) == 0) = false := beq_eq_false_iff_ne.2 (by omega)
                  have HN : Hid (s0 = true) := by show _ = _; rw [HS0.out]; (try rw [hh0]); (try rw [hh1]); (try rw [hh2]); unfold needs; simp [*]
                  clear HS0
                  (try clear hh0); (try clear hh1); (try clear hh2); (try clear q0); (try clear q1); (try clear q2); (try clear q3); (try clear q4)
                  as_aux_lemma =>
                    go_wp2_with fail
                    go_meet
                    exact ⟨by rw [HN.out]; rfl, rfl⟩
              · have y2 : ((a.orig : Int) != 0) = true := bne_iff_ne.2 (by omega)
                have HN : Hid (s0 = false) := by show _ = _; rw [HS0.out]; (try rw [hh0]); (try rw [hh1]); (try rw [hh2]); unfold needs; simp [*]
                clear HS0
                (try clear hh0); (try clear hh1); (try clear hh2); (try clear q0); (try clear q1); (try clear q2); (try clear q3); (try clear q4)
                as_aux_lemma =>
                  go_wp2_with fail
                  go_meet
                  exact ⟨by rw [HN.out]; rfl, rfl⟩
          · have y1 : ((a.pref : Int) != 0) = true := bne_iff_ne.2 (by omega)
            have HN : Hid (s0 = false) := by show _ = _; rw [HS0.out]; (try rw [hh0]); (try rw [hh1]); (try rw [hh2]); unfold needs; simp [*]
            clear HS0
            (try clear hh0); (try clear hh1); (try clear hh2); (try clear q0); (try clear q1); (try clear q2); (try clear q3); (try clear q4)
            as_aux_lemma =>
              go_wp2_with fail
              go_meet
              exact ⟨by rw [HN.out]; rfl, rfl⟩
      · have y0 : ((a.med : Int) != 0) = true := bne_iff_ne.2 (by omega)
        have HN : Hid (s0 = false) := by show _ = _; rw [HS0.out]; (try rw [hh0]); (try rw [hh1]); (try rw [hh2]); unfold needs; simp [*]
        clear HS0
        (try clear hh0); (try clear hh1); (try clear hh2); (try clear q0); (try clear q1); (try clear q2); (try clear q3); (try clear q4)
        as_aux_lemma =>
          go_wp2_with fail
          go_meet
          exact ⟨by rw [HN.out]; rfl, rfl⟩
  case rest =>
  obtain ⟨rfl, rfl⟩ := hcut
  by_cases h0 : a.origin < 0
  · have HN : Hid (res = false) := by show _ = _; rw [HE.out, decide_eq_false (by omega)]; rfl
    go_wp2_with fail
    go_ret
    exact ⟨okN_no HN.out, HB0.out⟩
  by_cases h1 : 2 < a.origin
  · have HN : Hid (res = false) := by show _ = _; rw [HE.out, decide_eq_false (show ¬ a.origin ≤ 2 by omega), Bool.and_false]; rfl
    go_wp2_with fail
    go_ret
    exact ⟨okN_no HN.out, HB0.out⟩
  rw [decide_eq_true (show 0 ≤ a.origin by omega), decide_eq_true (show a.origin ≤ 2 by omega)] at HE
  cases d1 with
  | false =>
    have HN : Hid (res = false) := HE.out
    go_wp2_with fail
    refine (HP.out _ HOK.out.path).mono ?_
    rintro e w1 ⟨rfl, rfl⟩
    have hok : okN false = 2 := rfl
    rw [hok]
    go_wp2_with fail
    go_ret
    exact ⟨okN_no HN.out, HB0.out⟩
  | true =>
  go_wp2_with fail
  refine (HP.out _ HOK.out.path).mono ?_
  rintro e w1 ⟨rfl, rfl⟩
  have hok : okN true = 0 := rfl
  rw [hok]
  clear hok
  cases dn with
  | false =>
    have HN : Hid (res = false) := by show _ = _; rw [HE.out]; simp
    go_wp2_with fail
    go_ret
    exact ⟨okN_no HN.out, HB0.out⟩
  | true =>
  cases s0 with
  | false =>
    have HN : Hid (res = false) := by show _ = _; rw [HE.out]; simp
    go_wp2_with fail
    go_ret
    exact ⟨okN_no HN.out, HB0.out⟩
  | true =>
  by_cases hlclus : 32 < a.clus.length
  · have hcl' : 32 < (a.clus.length : Int) := by omega
    have HN : Hid (res = false) := by show _ = _; rw [HE.out, decide_eq_false (show ¬ a.clus.length ≤ 32 by omega)]; simp
    clear hlclus
    go_wp2_with fail
    go_ret
    exact ⟨okN_no HN.out, HB0.out⟩
  have hclus' : ¬ 32 < (a.clus.length : Int) := by omega
  rw [decide_eq_true (show a.clus.length ≤ 32 by omega)] at HE
  clear hlclus
  by_cases hlcomms : 64 < a.comms.length
  · have hcl' : 64 < (a.comms.length : Int) := by omega
    have HN : Hid (res = false) := by show _ = _; rw [HE.out, decide_eq_false (show ¬ a.comms.length ≤ 64 by omega)]; simp
    clear hlcomms
    go_wp2_with fail
    go_ret
    exact ⟨okN_no HN.out, HB0.out⟩
  have hcomms' : ¬ 64 < (a.comms.length : Int) := by omega
  rw [decide_eq_true (show a.comms.length ≤ 64 by omega)] at HE
  clear hlcomms
  by_cases hlexts : 64 < a.exts.length
  · have hcl' : 64 < (a.exts.length : Int) := by omega
    have HN : Hid (res = false) := by show _ = _; rw [HE.out, decide_eq_false (show ¬ a.exts.length ≤ 64 by omega)]; simp
    clear hlexts
    go_wp2_with fail
    go_ret
    exact ⟨okN_no HN.out, HB0.out⟩
  have hexts' : ¬ 64 < (a.exts.length : Int) := by omega
  rw [decide_eq_true (show a.exts.length ≤ 64 by omega)] at HE
  clear hlexts
  by_cases hllarges : 64 < a.larges.length
  · have hcl' : 64 < (a.larges.length : Int) := by omega
    have HN : Hid (res = false) := by show _ = _; rw [HE.out, decide_eq_false (show ¬ a.larges.length ≤ 64 by omega)]; simp
    clear hllarges
    go_wp2_with fail
    go_ret
    exact ⟨okN_no HN.out, HB0.out⟩
  have hlarges' : ¬ 64 < (a.larges.length : Int) := by omega
  rw [decide_eq_true (show a.larges.length ≤ 64 by omega)] at HE
  clear hllarges
  cases r1 with
  | false =>
    have HN : Hid (res = false) := by show _ = _; rw [HE.out]; simp
    go_wp2_with fail
    refine (HR1.out _ HOK.out).mono ?_
    rintro e w1 ⟨rfl, hb1⟩
    have HB1 : Hid (Below w.heap.size w w1) := HB0.out.trans (hb1.mono hsW)
    clear hb1 c0 c1 c2 c3 c4 c5 c6 c7 c8 c9 c10 c11 c12 c13 c14 c15
    go_wp2_with fail
    go_ret
    exact ⟨okN_no HN.out, HB1.out⟩
  | true =>
  go_wp2_with fail
  refine (HR1.out _ HOK.out).mono ?_
  rintro e w1 ⟨rfl, hb1⟩
  have HB1 : Hid (Below w.heap.size w w1) := HB0.out.trans (hb1.mono hsW)
  have HC1 : Hid (CellsAt w1 w.heap.size a.ar 33) := HC0.out.below hb1 hlt
  have HOK1 : Hid (AtrOk w1 a) := HOK.out.below hb1 (Nat.le_refl _)
  clear hb1 c0 c1 c2 c3 c4 c5 c6 c7 c8 c9 c10 c11 c12 c13 c14 c15 HB0 HC0 HOK hsW hlt
  have hs1 := HB1.out.size
  have hlt1 := HC1.out.lt
  obtain ⟨c0, c1, c2, c3, c4, c5, c6, c7, c8, c9, c10, c11, c12, c13, c14, c15⟩ := atr_cells HC1.out
  go_wp2_with fail
  clear c0 c1 c2 c3 c4 c5 c6 c7 c8 c9 c10 c11 c12 c13 c14 c15
  go_loopw [5] (fun i wr => ∃ k : Nat, i = .int .i64 ((k : Int) + 1) ∧ Hid (riseB ltN (a.exts.take (k + 1)) = true) ∧ Hid (Below w1.heap.size w1 wr)) (fun i _ => a.exts.length + 2 - (intOf i).toNat)
  case atStart => exact ⟨0, rfl, riseB_one _ _, Below.refl _ _⟩
  case round =>
    as_aux_lemma =>
    obtain ⟨k, rfl, HT, HB⟩ := hrel
    have HC2 : Hid (CellsAt wr w.heap.size a.ar 33) := HC1.out.below HB.out hlt1
    have HOK2 : Hid (AtrOk wr a) := HOK1.out.below HB.out (Nat.le_refl _)
    have hsr := HB.out.size
    have hlt2 := HC2.out.lt
    by_cases hlt : k + 1 < a.exts.length
    · obtain ⟨x, hx⟩ : ∃ x, a.exts[k]? = some x := ⟨a.exts[k], List.getElem?_eq_getElem (by omega)⟩
      obtain ⟨y, hy⟩ : ∃ y, a.exts[k + 1]? = some y := ⟨a.exts[k + 1], List.getElem?_eq_getElem (by omega)⟩
      obtain ⟨b, off, hA, hb, hcell1, hcell2⟩ := num_both HOK2.out.xrd hx hy
      have c11 := (atr_cells HC2.out).2.2.2.2.2.2.2.2.2.2.2.1
      rw [hA] at c11
      have hlt' : (k : Int) + 1 < (a.exts.length : Int) := by omega
      have HX := Lib.hid hx
      have HY := Lib.hid hy
      clear hx hy hA
      have hv1 : IntKind.i64.wrap ((k : Int) + 1 - 1) = k := by rw [show (k : Int) + 1 - 1 = k by omega]; exact IntWalk.i64_in _ (by omega)
      by_cases hxy : x < y
      · have HN : Hid (riseB ltN (a.exts.take (k + 1 + 1)) = true) := riseB_next HT.out (by omega) (by rw [Nat.add_sub_cancel]; exact HX.out) HY.out (decide_eq_true hxy)
        have hd : decide (y ≤ x) = false := decide_eq_false (by omega)
        clear hxy
        go_wp2_with fail
        go_quiet (fail)
        go_wp2_with fail
        exact ⟨⟨k + 1, by go_num, HN.out, below_drewN HB.out _⟩, by simp [intOf]; omega⟩
      · have HF : Hid (riseB ltN a.exts = false) := riseB_stop (k := k + 1) (by omega) (by rw [Nat.add_sub_cancel]; exact HX.out) HY.out (decide_eq_false hxy)
        have hd : decide (y ≤ x) = true := decide_eq_true (by omega)
        have HN : Hid (res = false) := by show _ = _; rw [HE.out, HR2.out, HF.out]; simp
        clear hxy
        go_wp2_with fail
        go_quiet (fail)
        go_wp2_with fail
        go_ret
        exact ⟨okN_no HN.out, below_drewN (HB1.out.trans (HB.out.mono hs1)) _⟩
    · have hge : ¬ ((k : Int) + 1 < (a.exts.length : Int)) := by omega
      have c11 := (atr_cells HC2.out).2.2.2.2.2.2.2.2.2.2.2.1
      rw [List.take_of_length_le (by omega)] at HT
      rw [HR2.out, HT.out] at HE
      have HB2 : Hid (Below w.heap.size w wr) := HB1.out.trans (HB.out.mono hs1)
      go_wp2_with fail
      clear HB HB1 HC1 HOK1 hs1 hlt1 c11 hsr hlt2
      generalize hwo : wr = wo at *
      clear hwo
      have hs1 := HB2.out.size
      have hlt1 := HC2.out.lt
      have HC1 := HC2
      have HOK1 := HOK2
      clear HC2 HOK2
      go_loopw [6] (fun i wr => ∃ k : Nat, i = .int .i64 ((k : Int) + 1) ∧ Hid (riseB ltL (a.larges.take (k + 1)) = true) ∧ Hid (Below wo.heap.size wo wr)) (fun i _ => a.larges.length + 2 - (intOf i).toNat)
      case atStart => exact ⟨0, rfl, riseB_one _ _, Below.refl _ _⟩
      case round =>
        as_aux_lemma =>
        clear HT hge hlt
        obtain ⟨k, rfl, HT, HB⟩ := hrel
        have HC2 : Hid (CellsAt wr w.heap.size a.ar 33) := HC1.out.below HB.out hlt1
        have HOK2 : Hid (AtrOk wr a) := HOK1.out.below HB.out (Nat.le_refl _)
        have hsr := HB.out.size
        have hlt2 := HC2.out.lt
        have c12 := (atr_cells HC2.out).2.2.2.2.2.2.2.2.2.2.2.2.1
        by_cases hlt : k + 1 < a.larges.length
        · obtain ⟨x, hx⟩ : ∃ x, a.larges[k]? = some x := ⟨a.larges[k], List.getElem?_eq_getElem (by omega)⟩
          obtain ⟨y, hy⟩ : ∃ y, a.larges[k + 1]? = some y := ⟨a.larges[k + 1], List.getElem?_eq_getElem (by omega)⟩
          obtain ⟨b, off, hA, hb, hcx, hcy⟩ := lg_both HOK2.out.lrd hx hy
          have HCX := Lib.hid hcx
          have HCY := Lib.hid hcy
          rw [hA] at c12
          have HA := Lib.hid hA
          have hlt' : (k : Int) + 1 < (a.larges.length : Int) := by omega
          have HX := Lib.hid hx
          have HY := Lib.hid hy
          clear hx hy hcx hcy hA
          have hkl : (k : Int) < (a.larges.length : Int) := by omega
          have hk1 : 0 ≤ (k : Int) + 1 := by omega
          have hv0 : IntKind.i64.wrap (k : Int) = k := IntWalk.i64_in _ (by omega)
          have hv1 : IntKind.i64.wrap ((k : Int) + 1 - 1) = k := by rw [show (k : Int) + 1 - 1 = k by omega]; exact hv0
          cases hq : ltL x y with
          | true =>
            have HN : Hid (riseB ltL (a.larges.take (k + 1 + 1)) = true) := riseB_next HT.out (by omega) (by rw [Nat.add_sub_cancel]; exact HX.out) HY.out hq
            have HLC := Lib.hid (HLL.out x y)
            rw [hq] at HLC
            clear hq
            go_wp2_with fail
            refine wp_region_held_drew (S := fun w' => Below wr.heap.size wr w') (by kernel_rfl) (below_drewN (Below.refl _ _) 1) (fun hHeld => ?_)
            refine wpAnyH_take (i := 0) (oi := { dst := some 136, op := Op.fieldAddr 33 (Operand.tmp 1) 12, type := 0, pos := "ref.go:47", after := #[], guard := none }) (v := ?_) rfl (by kernel_rfl) (by kernel_rfl) (by kernel_rfl) (fun _ _ _ h => h) (Or.inl ⟨by rfl, ?_⟩) hHeld ?_
            rotate_left
            · intro w hSw
              clear hSw
              go_simp
              try with_reducible rfl
            try simp only [Act.put, List.setIfInBounds_toArray, List.set_cons_zero, List.set_cons_succ]
            refine wpAnyH_take (i := 1) (oi := { dst := some 137, op := Op.load 31 (Operand.tmp 136), type := 31, pos := "ref.go:47", after := #[{ on := 0, ground := Ground.data }], guard := none }) (v := ?_) rfl (by kernel_rfl) (by kernel_rfl) (by kernel_rfl) (fun _ _ _ h => h) (Or.inl ⟨by rfl, ?_⟩) hHeld ?_
            rotate_left
            · intro w hSw
              have c12 := (atr_cells (HC2.out.below hSw hlt2)).2.2.2.2.2.2.2.2.2.2.2.2.1
              rw [HA.out] at c12
              obtain ⟨x0, x1, x2⟩ := HCX.out.below hSw hb
              obtain ⟨y0, y1, y2⟩ := HCY.out.below hSw hb
              go_simp
              try with_reducible rfl
            try simp only [Act.put, List.setIfInBounds_toArray, List.set_cons_zero, List.set_cons_succ]
            refine wpAnyH_take (i := 2) (oi := { dst := some 138, op := Op.move (Operand.tmp 6), type := 3, pos := "ref.go:47", after := #[], guard := none }) (v := ?_) rfl (by kernel_rfl) (by kernel_rfl) (by kernel_rfl) (fun _ _ _ h => h) (Or.inl ⟨by rfl, ?_⟩) hHeld ?_
            rotate_left
            · intro w hSw
              clear hSw
              go_simp
              try with_reducible rfl
            try simp only [Act.put, List.setIfInBounds_toArray, List.set_cons_zero, List.set_cons_succ]
            refine wpAnyH_take (i := 3) (oi := { dst := some 139, op := Op.binOp BinOp.sub 3 (Operand.tmp 138) (Operand.const (Value.int IntKind.i64 1)) 3, type := 3, pos := "ref.go:47", after := #[{ on := 2, ground := Ground.data }], guard := none }) (v := ?_) rfl (by kernel_rfl) (by kernel_rfl) (by kernel_rfl) (fun _ _ _ h => h) (Or.inl ⟨by rfl, ?_⟩) hHeld ?_
            rotate_left
            · intro w hSw
              clear hSw
              go_simp
              try with_reducible rfl
            try simp only [Act.put, List.setIfInBounds_toArray, List.set_cons_zero, List.set_cons_succ]
            refine wpAnyH_take (i := 4) (oi := { dst := some 140, op := Op.indexAddr 31 (Operand.tmp 137) (Operand.tmp 139), type := 0, pos := "ref.go:47", after := #[{ on := 1, ground := Ground.data }, { on := 3, ground := Ground.data }], guard := none }) (v := ?_) rfl (by kernel_rfl) (by kernel_rfl) (by kernel_rfl) (fun _ _ _ h => h) (Or.inl ⟨by rfl, ?_⟩) hHeld ?_
            rotate_left
            · intro w hSw
              clear hSw
              go_simp
              try with_reducible rfl
            try simp only [Act.put, List.setIfInBounds_toArray, List.set_cons_zero, List.set_cons_succ]
            refine wpAnyH_take (i := 5) (oi := { dst := some 141, op := Op.load 81 (Operand.tmp 140), type := 81, pos := "ref.go:47", after := #[{ on := 4, ground := Ground.data }], guard := none }) (v := ?_) rfl (by kernel_rfl) (by kernel_rfl) (by kernel_rfl) (fun _ _ _ h => h) (Or.inl ⟨by rfl, ?_⟩) hHeld ?_
            rotate_left
            · intro w hSw
              have c12 := (atr_cells (HC2.out.below hSw hlt2)).2.2.2.2.2.2.2.2.2.2.2.2.1
              rw [HA.out] at c12
              obtain ⟨x0, x1, x2⟩ := HCX.out.below hSw hb
              obtain ⟨y0, y1, y2⟩ := HCY.out.below hSw hb
              go_simp
              try with_reducible rfl
            try simp only [Act.put, List.setIfInBounds_toArray, List.set_cons_zero, List.set_cons_succ]
            refine wpAnyH_take (i := 6) (oi := { dst := some 142, op := Op.fieldAddr 33 (Operand.tmp 1) 12, type := 0, pos := "ref.go:47", after := #[], guard := none }) (v := ?_) rfl (by kernel_rfl) (by kernel_rfl) (by kernel_rfl) (fun _ _ _ h => h) (Or.inl ⟨by rfl, ?_⟩) hHeld ?_
            rotate_left
            · intro w hSw
              clear hSw
              go_simp
              try with_reducible rfl
            try simp only [Act.put, List.setIfInBounds_toArray, List.set_cons_zero, List.set_cons_succ]
            refine wpAnyH_take (i := 7) (oi := { dst := some 143, op := Op.load 31 (Operand.tmp 142), type := 31, pos := "ref.go:47", after := #[{ on := 6, ground := Ground.data }], guard := none }) (v := ?_) rfl (by kernel_rfl) (by kernel_rfl) (by kernel_rfl) (fun _ _ _ h => h) (Or.inl ⟨by rfl, ?_⟩) hHeld ?_
            rotate_left
            · intro w hSw
              have c12 := (atr_cells (HC2.out.below hSw hlt2)).2.2.2.2.2.2.2.2.2.2.2.2.1
              rw [HA.out] at c12
              obtain ⟨x0, x1, x2⟩ := HCX.out.below hSw hb
              obtain ⟨y0, y1, y2⟩ := HCY.out.below hSw hb
              go_simp
              try with_reducible rfl
            try simp only [Act.put, List.setIfInBounds_toArray, List.set_cons_zero, List.set_cons_succ]
            refine wpAnyH_take (i := 8) (oi := { dst := some 144, op := Op.move (Operand.tmp 6), type := 3, pos := "ref.go:47", after := #[], guard := none }) (v := ?_) rfl (by kernel_rfl) (by kernel_rfl) (by kernel_rfl) (fun _ _ _ h => h) (Or.inl ⟨by rfl, ?_⟩) hHeld ?_
            rotate_left
            · intro w hSw
              clear hSw
              go_simp
              try with_reducible rfl
            try simp only [Act.put, List.setIfInBounds_toArray, List.set_cons_zero, List.set_cons_succ]
            refine wpAnyH_take (i := 9) (oi := { dst := some 145, op := Op.indexAddr 31 (Operand.tmp 143) (Operand.tmp 144), type := 0, pos := "ref.go:47", after := #[{ on := 7, ground := Ground.data }, { on := 8, ground := Ground.data }], guard := none }) (v := ?_) rfl (by kernel_rfl) (by kernel_rfl) (by kernel_rfl) (fun _ _ _ h => h) (Or.inl ⟨by rfl, ?_⟩) hHeld ?_
            rotate_left
            · intro w hSw
              clear hSw
              go_simp
              try with_reducible rfl
            try simp only [Act.put, List.setIfInBounds_toArray, List.set_cons_zero, List.set_cons_succ]
            refine wpAnyH_take (i := 10) (oi := { dst := some 146, op := Op.load 81 (Operand.tmp 145), type := 81, pos := "ref.go:47", after := #[{ on := 9, ground := Ground.data }], guard := none }) (v := ?_) rfl (by kernel_rfl) (by kernel_rfl) (by kernel_rfl) (fun _ _ _ h => h) (Or.inl ⟨by rfl, ?_⟩) hHeld ?_
            rotate_left
            · intro w hSw
              have c12 := (atr_cells (HC2.out.below hSw hlt2)).2.2.2.2.2.2.2.2.2.2.2.2.1
              rw [HA.out] at c12
              obtain ⟨x0, x1, x2⟩ := HCX.out.below hSw hb
              obtain ⟨y0, y1, y2⟩ := HCY.out.below hSw hb
              go_simp
              try with_reducible rfl
            try simp only [Act.put, List.setIfInBounds_toArray, List.set_cons_zero, List.set_cons_succ]
            refine wpAnyH_ready (rs := [11]) (by kernel_rfl) (by simp) ?_
            refine AllReadyH.cons (o := { dst := some 147, op := Op.call { callee := Callee.value (Operand.func 98), args := #[Operand.tmp 141, Operand.tmp 146], argTypes := #[81, 81] }, type := 4, pos := "ref.go:47", after := #[{ on := 5, ground := Ground.data }, { on := 10, ground := Ground.data }], guard := none }) rfl (fun K hK => ?_) AllReadyH.nil
            go_simp
            refine (HLC.out _).mono ?_
            rintro e w9 ⟨rfl, hb9⟩
            go_wp2_with fail
            refine hK.out _ _ (hHeld.trans (hb9.mono hHeld.size)) (fun hHeld => ?_)
            clear hK K
            try simp only [Act.put, List.setIfInBounds_toArray, List.set_cons_zero, List.set_cons_succ]
            refine wpAnyH_take (i := 12) (oi := { dst := some 148, op := Op.unOp UnOp.not 4 (Operand.tmp 147), type := 4, pos := "ref.go:47", after := #[{ on := 11, ground := Ground.data }], guard := none }) (v := ?_) rfl (by kernel_rfl) (by kernel_rfl) (by kernel_rfl) (fun _ _ _ h => h) (Or.inl ⟨by rfl, ?_⟩) hHeld ?_
            rotate_left
            · intro w hSw
              clear hSw
              go_simp
              try with_reducible rfl
            try simp only [Act.put, List.setIfInBounds_toArray, List.set_cons_zero, List.set_cons_succ]
            refine wpAnyH_done (by kernel_rfl) ?_ _
            clear hv0 hv1 hkl hk1
            go_wp2_with fail
            exact ⟨⟨k + 1, by go_num, HN.out, HB.out.trans (hHeld.mono hsr)⟩, by simp [intOf]; omega⟩
          | false =>
            have HF : Hid (riseB ltL a.larges = false) := riseB_stop (k := k + 1) (by omega) (by rw [Nat.add_sub_cancel]; exact HX.out) HY.out hq
            have HN : Hid (res = false) := by show _ = _; rw [HE.out, HR3.out, HF.out]; simp
            have HLC := Lib.hid (HLL.out x y)
            rw [hq] at HLC
            clear hq
            go_wp2_with fail
            refine wp_region_held_drew (S := fun w' => Below wr.heap.size wr w') (by kernel_rfl) (below_drewN (Below.refl _ _) 1) (fun hHeld => ?_)
            refine wpAnyH_take (i := 0) (oi := { dst := some 136, op := Op.fieldAddr 33 (Operand.tmp 1) 12, type := 0, pos := "ref.go:47", after := #[], guard := none }) (v := ?_) rfl (by kernel_rfl) (by kernel_rfl) (by kernel_rfl) (fun _ _ _ h => h) (Or.inl ⟨by rfl, ?_⟩) hHeld ?_
            rotate_left
            · intro w hSw
              clear hSw
              go_simp
              try with_reducible rfl
            try simp only [Act.put, List.setIfInBounds_toArray, List.set_cons_zero, List.set_cons_succ]
            refine wpAnyH_take (i := 1) (oi := { dst := some 137, op := Op.load 31 (Operand.tmp 136), type := 31, pos := "ref.go:47", after := #[{ on := 0, ground := Ground.data }], guard := none }) (v := ?_) rfl (by kernel_rfl) (by kernel_rfl) (by kernel_rfl) (fun _ _ _ h => h) (Or.inl ⟨by rfl, ?_⟩) hHeld ?_
            rotate_left
            · intro w hSw
              have c12 := (atr_cells (HC2.out.below hSw hlt2)).2.2.2.2.2.2.2.2.2.2.2.2.1
              rw [HA.out] at c12
              obtain ⟨x0, x1, x2⟩ := HCX.out.below hSw hb
              obtain ⟨y0, y1, y2⟩ := HCY.out.below hSw hb
              go_simp
              try with_reducible rfl
            try simp only [Act.put, List.setIfInBounds_toArray, List.set_cons_zero, List.set_cons_succ]
            refine wpAnyH_take (i := 2) (oi := { dst := some 138, op := Op.move (Operand.tmp 6), type := 3, pos := "ref.go:47", after := #[], guard := none }) (v := ?_) rfl (by kernel_rfl) (by kernel_rfl) (by kernel_rfl) (fun _ _ _ h => h) (Or.inl ⟨by rfl, ?_⟩) hHeld ?_
            rotate_left
            · intro w hSw
              clear hSw
              go_simp
              try with_reducible rfl
            try simp only [Act.put, List.setIfInBounds_toArray, List.set_cons_zero, List.set_cons_succ]
            refine wpAnyH_take (i := 3) (oi := { dst := some 139, op := Op.binOp BinOp.sub 3 (Operand.tmp 138) (Operand.const (Value.int IntKind.i64 1)) 3, type := 3, pos := "ref.go:47", after := #[{ on := 2, ground := Ground.data }], guard := none }) (v := ?_) rfl (by kernel_rfl) (by kernel_rfl) (by kernel_rfl) (fun _ _ _ h => h) (Or.inl ⟨by rfl, ?_⟩) hHeld ?_
            rotate_left
            · intro w hSw
              clear hSw
              go_simp
              try with_reducible rfl
            try simp only [Act.put, List.setIfInBounds_toArray, List.set_cons_zero, List.set_cons_succ]
            refine wpAnyH_take (i := 4) (oi := { dst := some 140, op := Op.indexAddr 31 (Operand.tmp 137) (Operand.tmp 139), type := 0, pos := "ref.go:47", after := #[{ on := 1, ground := Ground.data }, { on := 3, ground := Ground.data }], guard := none }) (v := ?_) rfl (by kernel_rfl) (by kernel_rfl) (by kernel_rfl) (fun _ _ _ h => h) (Or.inl ⟨by rfl, ?_⟩) hHeld ?_
            rotate_left
            · intro w hSw
              clear hSw
              go_simp
              try with_reducible rfl
            try simp only [Act.put, List.setIfInBounds_toArray, List.set_cons_zero, List.set_cons_succ]
            refine wpAnyH_take (i := 5) (oi := { dst := some 141, op := Op.load 81 (Operand.tmp 140), type := 81, pos := "ref.go:47", after := #[{ on := 4, ground := Ground.data }], guard := none }) (v := ?_) rfl (by kernel_rfl) (by kernel_rfl) (by kernel_rfl) (fun _ _ _ h => h) (Or.inl ⟨by rfl, ?_⟩) hHeld ?_
            rotate_left
            · intro w hSw
              have c12 := (atr_cells (HC2.out.below hSw hlt2)).2.2.2.2.2.2.2.2.2.2.2.2.1
              rw [HA.out] at c12
              obtain ⟨x0, x1, x2⟩ := HCX.out.below hSw hb
              obtain ⟨y0, y1, y2⟩ := HCY.out.below hSw hb
              go_simp
              try with_reducible rfl
            try simp only [Act.put, List.setIfInBounds_toArray, List.set_cons_zero, List.set_cons_succ]
            refine wpAnyH_take (i := 6) (oi := { dst := some 142, op := Op.fieldAddr 33 (Operand.tmp 1) 12, type := 0, pos := "ref.go:47", after := #[], guard := none }) (v := ?_) rfl (by kernel_rfl) (by kernel_rfl) (by kernel_rfl) (fun _ _ _ h => h) (Or.inl ⟨by rfl, ?_⟩) hHeld ?_
            rotate_left
            · intro w hSw
              clear hSw
              go_simp
              try with_reducible rfl
            try simp only [Act.put, List.setIfInBounds_toArray, List.set_cons_zero, List.set_cons_succ]
            refine wpAnyH_take (i := 7) (oi := { dst := some 143, op := Op.load 31 (Operand.tmp 142), type := 31, pos := "ref.go:47", after := #[{ on := 6, ground := Ground.data }], guard := none }) (v := ?_) rfl (by kernel_rfl) (by kernel_rfl) (by kernel_rfl) (fun _ _ _ h => h) (Or.inl ⟨by rfl, ?_⟩) hHeld ?_
            rotate_left
            · intro w hSw
              have c12 := (atr_cells (HC2.out.below hSw hlt2)).2.2.2.2.2.2.2.2.2.2.2.2.1
              rw [HA.out] at c12
              obtain ⟨x0, x1, x2⟩ := HCX.out.below hSw hb
              obtain ⟨y0, y1, y2⟩ := HCY.out.below hSw hb
              go_simp
              try with_reducible rfl
            try simp only [Act.put, List.setIfInBounds_toArray, List.set_cons_zero, List.set_cons_succ]
            refine wpAnyH_take (i := 8) (oi := { dst := some 144, op := Op.move (Operand.tmp 6), type := 3, pos := "ref.go:47", after := #[], guard := none }) (v := ?_) rfl (by kernel_rfl) (by kernel_rfl) (by kernel_rfl) (fun _ _ _ h => h) (Or.inl ⟨by rfl, ?_⟩) hHeld ?_
            rotate_left
            · intro w hSw
              clear hSw
              go_simp
              try with_reducible rfl
            try simp only [Act.put, List.setIfInBounds_toArray, List.set_cons_zero, List.set_cons_succ]
            refine wpAnyH_take (i := 9) (oi := { dst := some 145, op := Op.indexAddr 31 (Operand.tmp 143) (Operand.tmp 144), type := 0, pos := "ref.go:47", after := #[{ on := 7, ground := Ground.data }, { on := 8, ground := Ground.data }], guard := none }) (v := ?_) rfl (by kernel_rfl) (by kernel_rfl) (by kernel_rfl) (fun _ _ _ h => h) (Or.inl ⟨by rfl, ?_⟩) hHeld ?_
            rotate_left
            · intro w hSw
              clear hSw
              go_simp
              try with_reducible rfl
            try simp only [Act.put, List.setIfInBounds_toArray, List.set_cons_zero, List.set_cons_succ]
            refine wpAnyH_take (i := 10) (oi := { dst := some 146, op := Op.load 81 (Operand.tmp 145), type := 81, pos := "ref.go:47", after := #[{ on := 9, ground := Ground.data }], guard := none }) (v := ?_) rfl (by kernel_rfl) (by kernel_rfl) (by kernel_rfl) (fun _ _ _ h => h) (Or.inl ⟨by rfl, ?_⟩) hHeld ?_
            rotate_left
            · intro w hSw
              have c12 := (atr_cells (HC2.out.below hSw hlt2)).2.2.2.2.2.2.2.2.2.2.2.2.1
              rw [HA.out] at c12
              obtain ⟨x0, x1, x2⟩ := HCX.out.below hSw hb
              obtain ⟨y0, y1, y2⟩ := HCY.out.below hSw hb
              go_simp
              try with_reducible rfl
            try simp only [Act.put, List.setIfInBounds_toArray, List.set_cons_zero, List.set_cons_succ]
            refine wpAnyH_ready (rs := [11]) (by kernel_rfl) (by simp) ?_
            refine AllReadyH.cons (o := { dst := some 147, op := Op.call { callee := Callee.value (Operand.func 98), args := #[Operand.tmp 141, Operand.tmp 146], argTypes := #[81, 81] }, type := 4, pos := "ref.go:47", after := #[{ on := 5, ground := Ground.data }, { on := 10, ground := Ground.data }], guard := none }) rfl (fun K hK => ?_) AllReadyH.nil
            go_simp
            refine (HLC.out _).mono ?_
            rintro e w9 ⟨rfl, hb9⟩
            go_wp2_with fail
            refine hK.out _ _ (hHeld.trans (hb9.mono hHeld.size)) (fun hHeld => ?_)
            clear hK K
            try simp only [Act.put, List.setIfInBounds_toArray, List.set_cons_zero, List.set_cons_succ]
            refine wpAnyH_take (i := 12) (oi := { dst := some 148, op := Op.unOp UnOp.not 4 (Operand.tmp 147), type := 4, pos := "ref.go:47", after := #[{ on := 11, ground := Ground.data }], guard := none }) (v := ?_) rfl (by kernel_rfl) (by kernel_rfl) (by kernel_rfl) (fun _ _ _ h => h) (Or.inl ⟨by rfl, ?_⟩) hHeld ?_
            rotate_left
            · intro w hSw
              clear hSw
              go_simp
              try with_reducible rfl
            try simp only [Act.put, List.setIfInBounds_toArray, List.set_cons_zero, List.set_cons_succ]
            refine wpAnyH_done (by kernel_rfl) ?_ _
            clear hv0 hv1 hkl hk1
            go_wp2_with fail
            go_ret
            exact ⟨okN_no HN.out, HB2.out.trans ((HB.out.trans (hHeld.mono hsr)).mono hs1)⟩
        · have hge : ¬ ((k : Int) + 1 < (a.larges.length : Int)) := by omega
          rw [List.take_of_length_le (by omega)] at HT
          rw [HR3.out, HT.out] at HE
          go_wp2_with fail
          go_ret
          exact ⟨okN_yes HE.out, HB2.out.trans (HB.out.mono hs1)⟩
end Go.Proofs.YtojiieghjhjoaaaGreat
