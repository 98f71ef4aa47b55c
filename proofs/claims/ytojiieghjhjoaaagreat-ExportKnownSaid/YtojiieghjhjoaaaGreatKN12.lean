/-
  Several texts in one.
-/
import Derived.Test.YtojiieghjhjoaaaGreatKN11
import Derived.Test.YtojiieghjhjoaaaGreatKN10
import Derived.Deep.DeepCutAuto
set_option linter.unusedVariables false
set_option linter.unusedSimpArgs false
namespace Go.Proofs.YtojiieghjhjoaaaGreat
open Go.RowKit Go.MapKept Go.Shelf
open Go.Lib hiding intOf

theorem okN_no {b : Bool} (h : b = false) : Ending.returned (.int .i64 2) = .returned (.int .i64 (okN b)) := by rw [h]; rfl
theorem okN_yes {b : Bool} (h : b = true) : Ending.returned (.int .i64 0) = .returned (.int .i64 (okN b)) := by rw [h]; rfl
/-- a number that must be 0 where a mark is not there -/
def needs (has : Bool) (n : Nat) : Bool := has || n == 0
theorem atOk_parts (a : Atr) : atOk a.c = (decide (0 ≤ a.origin) && decide (a.origin ≤ 2) && pathOk (a.segs.map Sg.c) && nextOk a.next && (needs a.hasMed a.med && needs a.hasPref a.pref && needs a.hasOrig a.orig && needs (!(a.aggAs == 0)) a.aggId) && (decide (a.clus.length ≤ 32) && (riseB ltN a.comms && decide (a.comms.length ≤ 64)) && (riseB ltN a.exts && decide (a.exts.length ≤ 64)) && (riseB ltL a.larges && decide (a.larges.length ≤ 64)))) := rfl
theorem needs_yes {has : Bool} {n : Nat} (h : has = true) : needs has n = true := by rw [h]; rfl
theorem needs_no {n : Nat} : needs false n = (n == 0) := rfl
set_option maxRecDepth 100000 in
set_option maxHeartbeats 16000000 in
theorem check_any (a : Atr) (w : World) (h : AtrOk w a) :
    Calls Tryz.prog 26 #[a.v] w fun e w' => e = .returned (.int .i64 (okN (atOk a.c))) ∧ Below w.heap.size w w' := by
  have HB0 : Hid (Below w.heap.size w (w.alloc (.cells a.ar 33))) := (Below.refl _ _).alloc (Nat.le_refl _) _
  have HC0 : Hid (CellsAt (w.alloc (.cells a.ar 33)) w.heap.size a.ar 33) := CellsAt.new _ _ _
  have HOK : Hid (AtrOk (w.alloc (.cells a.ar 33)) a) := h.below HB0.out (Nat.le_refl _)
  have HP : Hid (∀ W, SegsOk W a.pA a.pC a.segs → Calls Tryz.prog 55 #[.slice a.pA a.segs.length a.pC] W fun e w' => e = .returned (.int .i64 (okN (pathOk (a.segs.map Sg.c)))) ∧ Below W.heap.size W w') := fun W h => pcheck_any _ _ _ _ h
  have HR1 : Hid (∀ W, AtrOk W a → Calls Tryz.prog 56 #[.slice a.mA a.comms.length a.mC, .func (.func 57) #[] #[]] W fun e w' => e = .returned (.bool (riseB ltN a.comms && decide (a.comms.length ≤ 64))) ∧ Below W.heap.size W w') := fun W h => rise_u32 _ _ _ _ h.mrd h.mlen h.mcap
  have HR2 : Hid (∀ W, AtrOk W a → Calls Tryz.prog 58 #[.slice a.xA a.exts.length a.xC, .func (.func 59) #[] #[]] W fun e w' => e = .returned (.bool (riseB ltN a.exts && decide (a.exts.length ≤ 64))) ∧ Below W.heap.size W w') := fun W h => rise_u64 _ _ _ _ h.xrd h.xlen h.xcap
  have HR3 : Hid (∀ W, AtrOk W a → Calls Tryz.prog 60 #[.slice a.lA a.larges.length a.lC, .func (.func 61) #[] #[]] W fun e w' => e = .returned (.bool (riseB ltL a.larges && decide (a.larges.length ≤ 64))) ∧ Below W.heap.size W w') := fun W h => rise_L _ _ _ _ h.lrd h.llen h.lcap
  have hn := h.next
  have hk1 : a.clus.length ≤ 9223372036854775807 := Nat.le_trans h.klen h.kcap
  clear h
  have HE := Lib.hid (atOk_parts a)
  generalize atOk a.c = res at HE ⊢
  unfold Atr.v
  go_enter Tryz.func26, Tryz.ntmps26
  generalize pathOk (a.segs.map Sg.c) = d1 at HE HP
  generalize (riseB ltN a.comms && decide (a.comms.length ≤ 64)) = r1 at HE HR1
  generalize (riseB ltN a.exts && decide (a.exts.length ≤ 64)) = r2 at HE HR2
  generalize (riseB ltL a.larges && decide (a.larges.length ≤ 64)) = r3 at HE HR3
  obtain ⟨dn, hdn⟩ : ∃ dn, dn = nextOk a.next := ⟨_, rfl⟩
  obtain ⟨s1, hs1⟩ : ∃ s, s = needs a.hasMed a.med := ⟨_, rfl⟩
  obtain ⟨s2, hs2⟩ : ∃ s, s = needs a.hasPref a.pref := ⟨_, rfl⟩
  obtain ⟨s3, hs3⟩ : ∃ s, s = needs a.hasOrig a.orig := ⟨_, rfl⟩
  obtain ⟨s4, hs4⟩ : ∃ s, s = needs (!(a.aggAs == 0)) a.aggId := ⟨_, rfl⟩
  obtain ⟨k1, hk1'⟩ : ∃ k, k = decide (a.clus.length ≤ 32) := ⟨_, rfl⟩
  rw [← hdn, ← hs1, ← hs2, ← hs3, ← hs4, ← hk1'] at HE
  have HDN := Lib.hid hdn
  have HS1 := Lib.hid hs1
  have HS2 := Lib.hid hs2
  have HS3 := Lib.hid hs3
  have HS4 := Lib.hid hs4
  have HK1 := Lib.hid hk1'
  clear hdn hs1 hs2 hs3 hs4 hk1'
  go_upto_region 1 with fail
  generalize w.alloc (.cells a.ar 33) = W at HB0 HC0 HOK ⊢
  have hsW := HB0.out.size
  have hlt := HC0.out.lt
  obtain ⟨c0, c1, c2, c3, c4, c5, c6, c7, c8, c9, c10, c11, c12, c13, c14, c15⟩ := atr_cells HC0.out
  by_cases h0 : a.origin < 0
  · have HN : Hid (res = false) := by show _ = _; rw [HE.out, decide_eq_false (by omega)]; rfl
    go_wp2_with fail
    go_ret
    exact ⟨okN_no HN.out, HB0.out⟩
  by_cases h1 : 2 < a.origin
  · have HN : Hid (res = false) := by show _ = _; rw [HE.out, decide_eq_false (show ¬ a.origin ≤ 2 by omega), Bool.and_false]; rfl
    go_wp2_with fail
    go_ret
    exact ⟨okN_no HN.out, HB0.out⟩
  rw [decide_eq_true (show 0 ≤ a.origin by omega), decide_eq_true (show a.origin ≤ 2 by omega)] at HE
  cases d1 with
  | false =>
    have HN : Hid (res = false) := HE.out
    go_wp2_with fail
    refine (HP.out _ HOK.out.path).mono ?_
    rintro e w1 ⟨rfl, hb1⟩
    have HB1 : Hid (Below w.heap.size w w1) := HB0.out.trans (hb1.mono hsW)
    have hok : okN false = 2 := rfl
    rw [hok]
    clear hb1
    go_wp2_with fail
    go_ret
    exact ⟨okN_no HN.out, HB1.out⟩
  | true =>
  go_wp2_with fail
  refine (HP.out _ HOK.out.path).mono ?_
  rintro e w1 ⟨rfl, hb1⟩
  have HB1 : Hid (Below w.heap.size w w1) := HB0.out.trans (hb1.mono hsW)
  have HC1 : Hid (CellsAt w1 w.heap.size a.ar 33) := HC0.out.below hb1 hlt
  have HOK1 : Hid (AtrOk w1 a) := HOK.out.below hb1 (Nat.le_refl _)
  have hok : okN true = 0 := rfl
  rw [hok]
  clear hb1 hok c0 c1 c2 c3 c4 c5 c6 c7 c8 c9 c10 c11 c12 c13 c14 c15
  obtain ⟨c0, c1, c2, c3, c4, c5, c6, c7, c8, c9, c10, c11, c12, c13, c14, c15⟩ := atr_cells HC1.out
  have hsW1 := HB1.out.size
  have hlt1 := HC1.out.lt
  clear HB0 HC0 HOK hsW hlt
  go_upto_region 4 with fail
  go_cut [3] (fun s wx => s = .bool (!dn) ∧ wx = w1)
  case first =>
    by_cases q0 : a.next.size = 0
    · have z0 : ((a.next.size : Int) != 0) = false := by simp [q0]
      have HN : Hid (dn = true) := by show _ = _; rw [HDN.out]; unfold nextOk; simp [q0]
      clear q0
      go_wp2_with fail
      go_meet
      exact ⟨by rw [HN.out]; rfl, rfl⟩
    · have z0 : ((a.next.size : Int) != 0) = true := bne_iff_ne.2 (by omega)
      by_cases q4 : a.next.size = 4
      · have z4 : ((a.next.size : Int) != 4) = false := by simp; omega
        have HN : Hid (dn = true) := by show _ = _; rw [HDN.out]; unfold nextOk; simp [q4]
        clear q0 q4
        go_wp2_with fail
        go_meet
        exact ⟨by rw [HN.out]; rfl, rfl⟩
      · have z4 : ((a.next.size : Int) != 4) = true := bne_iff_ne.2 (by omega)
        by_cases q5 : a.next.size = 16
        · have z5 : ((a.next.size : Int) != 16) = false := by simp; omega
          have HN : Hid (dn = true) := by show _ = _; rw [HDN.out]; unfold nextOk; simp [q5]
          clear q0 q4 q5
          go_wp2_with fail
          go_meet
          exact ⟨by rw [HN.out]; rfl, rfl⟩
        · have z5 : ((a.next.size : Int) != 16) = true := bne_iff_ne.2 (by omega)
          have HN : Hid (dn = false) := by show _ = _; rw [HDN.out]; unfold nextOk; simp [q0, q4, q5]
          clear q0 q4 q5
          go_wp2_with fail
          go_meet
          exact ⟨by rw [HN.out]; rfl, rfl⟩
  case rest =>
  obtain ⟨rfl, rfl⟩ := hcut
  cases dn with
  | false =>
    have HN : Hid (res = false) := by show _ = _; rw [HE.out]; simp
    go_wp2_with fail
    go_ret
    exact ⟨okN_no HN.out, HB1.out⟩
  | true =>
  go_upto_region 5 with fail
  go_cut [3] (fun s wx => s = .bool (!s1) ∧ wx = wc)
  case first =>
    cases hh : a.hasMed with
    | true =>
      rw [hh] at c3
      have HN : Hid (s1 = true) := by show _ = _; rw [HS1.out, needs_yes hh]
      clear hh
      go_wp2_with fail
      go_meet
      exact ⟨by rw [HN.out]; rfl, rfl⟩
    | false =>
      rw [hh] at c3
      by_cases q : a.med = 0
      · have z : ((a.med : Int) != 0) = false := by simp [q]
        have HN : Hid (s1 = true) := by show _ = _; rw [HS1.out, hh, needs_no]; simp [q]
        clear hh q
        go_wp2_with fail
        go_meet
        exact ⟨by rw [HN.out]; rfl, rfl⟩
      · have z : ((a.med : Int) != 0) = true := bne_iff_ne.2 (by omega)
        have HN : Hid (s1 = false) := by show _ = _; rw [HS1.out, hh, needs_no]; simp [q]
        clear hh q
        go_wp2_with fail
        go_meet
        exact ⟨by rw [HN.out]; rfl, rfl⟩
  case rest =>
  obtain ⟨rfl, rfl⟩ := hcut
  cases s1 with
  | false =>
    have HN : Hid (res = false) := by show _ = _; rw [HE.out]; simp
    go_wp2_with fail
    go_ret
    exact ⟨okN_no HN.out, HB1.out⟩
  | true =>
  go_upto_region 6 with fail
  go_cut [3] (fun s wx => s = .bool (!s2) ∧ wx = wc)
  case first =>
    cases hh : a.hasPref with
    | true =>
      rw [hh] at c5
      have HN : Hid (s2 = true) := by show _ = _; rw [HS2.out, needs_yes hh]
      clear hh
      go_wp2_with fail
      go_meet
      exact ⟨by rw [HN.out]; rfl, rfl⟩
    | false =>
      rw [hh] at c5
      by_cases q : a.pref = 0
      · have z : ((a.pref : Int) != 0) = false := by simp [q]
        have HN : Hid (s2 = true) := by show _ = _; rw [HS2.out, hh, needs_no]; simp [q]
        clear hh q
        go_wp2_with fail
        go_meet
        exact ⟨by rw [HN.out]; rfl, rfl⟩
      · have z : ((a.pref : Int) != 0) = true := bne_iff_ne.2 (by omega)
        have HN : Hid (s2 = false) := by show _ = _; rw [HS2.out, hh, needs_no]; simp [q]
        clear hh q
        go_wp2_with fail
        go_meet
        exact ⟨by rw [HN.out]; rfl, rfl⟩
  case rest =>
  obtain ⟨rfl, rfl⟩ := hcut
  cases s2 with
  | false =>
    have HN : Hid (res = false) := by show _ = _; rw [HE.out]; simp
    go_wp2_with fail
    go_ret
    exact ⟨okN_no HN.out, HB1.out⟩
  | true =>
  go_upto_region 7 with fail
  go_cut [3] (fun s wx => s = .bool (!s3) ∧ wx = wc)
  case first =>
    cases hh : a.hasOrig with
    | true =>
      rw [hh] at c13
      have HN : Hid (s3 = true) := by show _ = _; rw [HS3.out, needs_yes hh]
      clear hh
      go_wp2_with fail
      go_meet
      exact ⟨by rw [HN.out]; rfl, rfl⟩
    | false =>
      rw [hh] at c13
      by_cases q : a.orig = 0
      · have z : ((a.orig : Int) != 0) = false := by simp [q]
        have HN : Hid (s3 = true) := by show _ = _; rw [HS3.out, hh, needs_no]; simp [q]
        clear hh q
        go_wp2_with fail
        go_meet
        exact ⟨by rw [HN.out]; rfl, rfl⟩
      · have z : ((a.orig : Int) != 0) = true := bne_iff_ne.2 (by omega)
        have HN : Hid (s3 = false) := by show _ = _; rw [HS3.out, hh, needs_no]; simp [q]
        clear hh q
        go_wp2_with fail
        go_meet
        exact ⟨by rw [HN.out]; rfl, rfl⟩
  case rest =>
  obtain ⟨rfl, rfl⟩ := hcut
  cases s3 with
  | false =>
    have HN : Hid (res = false) := by show _ = _; rw [HE.out]; simp
    go_wp2_with fail
    go_ret
    exact ⟨okN_no HN.out, HB1.out⟩
  | true =>
  go_upto_region 8 with fail
  go_cut [3] (fun s wx => s = .bool (!s4) ∧ wx = wc)
  case first =>
    by_cases q1 : a.aggAs = 0
    · have z1 : ((a.aggAs : Int) == 0) = true := by simp [q1]
      by_cases q : a.aggId = 0
      · have z : ((a.aggId : Int) != 0) = false := by simp [q]
        have HN : Hid (s4 = true) := by show _ = _; rw [HS4.out, q1, q]; rfl
        clear q1 q
        go_wp2_with fail
        go_meet
        exact ⟨by rw [HN.out]; rfl, rfl⟩
      · have z : ((a.aggId : Int) != 0) = true := bne_iff_ne.2 (by omega)
        have HN : Hid (s4 = false) := by show _ = _; rw [HS4.out, q1]; unfold needs; simp [q]
        clear q1 q
        go_wp2_with fail
        go_meet
        exact ⟨by rw [HN.out]; rfl, rfl⟩
    · have z1 : ((a.aggAs : Int) == 0) = false := by simp; omega
      have HN : Hid (s4 = true) := by show _ = _; rw [HS4.out]; unfold needs; simp [q1]
      clear q1
      go_wp2_with fail
      go_meet
      exact ⟨by rw [HN.out]; rfl, rfl⟩
  case rest =>
  obtain ⟨rfl, rfl⟩ := hcut
  cases s4 with
  | false =>
    have HN : Hid (res = false) := by show _ = _; rw [HE.out]; simp
    go_wp2_with fail
    go_ret
    exact ⟨okN_no HN.out, HB1.out⟩
  | true =>
  by_cases hcl : 32 < a.clus.length
  · have hcl' : 32 < (a.clus.length : Int) := by omega
    have HN : Hid (res = false) := by show _ = _; rw [HE.out, HK1.out, decide_eq_false (show ¬ a.clus.length ≤ 32 by omega)]; simp
    clear hcl
    go_wp2_with fail
    go_ret
    exact ⟨okN_no HN.out, HB1.out⟩
  have hcl' : ¬ 32 < (a.clus.length : Int) := by omega
  have hk2 : k1 = true := by rw [HK1.out]; exact decide_eq_true (by omega)
  rw [hk2] at HE
  clear hk2 HK1 hcl
  cases r1 with
  | false =>
    have HN : Hid (res = false) := by show _ = _; rw [HE.out]; simp
    go_wp2_with fail
    refine (HR1.out _ HOK1.out).mono ?_
    rintro e w2 ⟨rfl, hb2⟩
    have HB2 : Hid (Below w.heap.size w w2) := HB1.out.trans (hb2.mono HB1.out.size)
    clear hb2 c0 c1 c2 c3 c4 c5 c6 c7 c8 c9 c10 c11 c12 c13 c14 c15
    go_wp2_with fail
    go_ret
    exact ⟨okN_no HN.out, HB2.out⟩
  | true =>
  go_wp2_with fail
  refine (HR1.out _ HOK1.out).mono ?_
  rintro e v2 ⟨rfl, hb2⟩
  have HB2 : Hid (Below w.heap.size w v2) := HB1.out.trans (hb2.mono HB1.out.size)
  have HC2 : Hid (CellsAt v2 w.heap.size a.ar 33) := HC1.out.below hb2 HC1.out.lt
  have HOK2 : Hid (AtrOk v2 a) := HOK1.out.below hb2 (Nat.le_refl _)
  clear hb2 c0 c1 c2 c3 c4 c5 c6 c7 c8 c9 c10 c11 c12 c13 c14 c15
  obtain ⟨c0, c1, c2, c3, c4, c5, c6, c7, c8, c9, c10, c11, c12, c13, c14, c15⟩ := atr_cells HC2.out
  cases r2 with
  | false =>
    have HN : Hid (res = false) := by show _ = _; rw [HE.out]; simp
    go_wp2_with fail
    refine (HR2.out _ HOK2.out).mono ?_
    rintro e w2 ⟨rfl, hb2⟩
    have HB3 : Hid (Below w.heap.size w w2) := HB2.out.trans (hb2.mono HB2.out.size)
    clear hb2 c0 c1 c2 c3 c4 c5 c6 c7 c8 c9 c10 c11 c12 c13 c14 c15
    go_wp2_with fail
    go_ret
    exact ⟨okN_no HN.out, HB3.out⟩
  | true =>
  go_wp2_with fail
  refine (HR2.out _ HOK2.out).mono ?_
  rintro e v3 ⟨rfl, hb2⟩
  have HB3 : Hid (Below w.heap.size w v3) := HB2.out.trans (hb2.mono HB2.out.size)
  have HC3 : Hid (CellsAt v3 w.heap.size a.ar 33) := HC2.out.below hb2 HC2.out.lt
  have HOK3 : Hid (AtrOk v3 a) := HOK2.out.below hb2 (Nat.le_refl _)
  clear hb2 c0 c1 c2 c3 c4 c5 c6 c7 c8 c9 c10 c11 c12 c13 c14 c15
  obtain ⟨c0, c1, c2, c3, c4, c5, c6, c7, c8, c9, c10, c11, c12, c13, c14, c15⟩ := atr_cells HC3.out
  cases r3 with
  | false =>
    have HN : Hid (res = false) := by show _ = _; rw [HE.out]; simp
    go_wp2_with fail
    refine (HR3.out _ HOK3.out).mono ?_
    rintro e w2 ⟨rfl, hb2⟩
    have HB4 : Hid (Below w.heap.size w w2) := HB3.out.trans (hb2.mono HB3.out.size)
    clear hb2 c0 c1 c2 c3 c4 c5 c6 c7 c8 c9 c10 c11 c12 c13 c14 c15
    go_wp2_with fail
    go_ret
    exact ⟨okN_no HN.out, HB4.out⟩
  | true =>
  go_wp2_with fail
  refine (HR3.out _ HOK3.out).mono ?_
  rintro e v4 ⟨rfl, hb2⟩
  have HB4 : Hid (Below w.heap.size w v4) := HB3.out.trans (hb2.mono HB3.out.size)
  have HC4 : Hid (CellsAt v4 w.heap.size a.ar 33) := HC3.out.below hb2 HC3.out.lt
  have HOK4 : Hid (AtrOk v4 a) := HOK3.out.below hb2 (Nat.le_refl _)
  clear hb2 c0 c1 c2 c3 c4 c5 c6 c7 c8 c9 c10 c11 c12 c13 c14 c15
  obtain ⟨c0, c1, c2, c3, c4, c5, c6, c7, c8, c9, c10, c11, c12, c13, c14, c15⟩ := atr_cells HC4.out
  have HN : Hid (res = true) := by show _ = _; rw [HE.out]; rfl
  go_wp2_with fail
  go_ret
  exact ⟨okN_yes HN.out, HB4.out⟩
end Go.Proofs.YtojiieghjhjoaaaGreat
