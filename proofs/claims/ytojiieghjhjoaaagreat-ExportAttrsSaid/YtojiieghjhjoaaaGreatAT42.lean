/-
  Several texts in one.
-/
import Derived.Test.YtojiieghjhjoaaaGreatAT41
set_option linter.unusedVariables false
set_option linter.unusedSimpArgs false
namespace Go.Proofs.YtojiieghjhjoaaaGreat
open Go.RowKit Go.MapKept Go.Shelf
open Go.Lib hiding intOf

theorem SegsO.head' {w2 : World} {base g c : Nat} {s : Sg} {r : List Sg} (hown : OwnL w2 base 67 2 Sg.cs (.slice (some ⟨g, 0, none⟩) (s :: r).length c) (s :: r)) (hr : ∀ t ∈ r, OwnL w2 base 22 1 u1 (.slice t.A t.as_.length t.cap) t.as_ ∧ (∀ n ∈ t.as_, n < 4294967296) ∧ -9223372036854775808 ≤ t.kind ∧ t.kind ≤ 9223372036854775807)
    (A2 : Option Addr) (c2 as_ : Nat) (ho : OwnL w2 base 22 1 u1 (.slice A2 (s.as_.length + 1) c2) (as_ :: s.as_)) (hf : ∀ n ∈ as_ :: s.as_, n < 4294967296) (hkd : -9223372036854775808 ≤ s.kind ∧ s.kind ≤ 9223372036854775807) :
    SegsO (w2.setCell ⟨g, 1, none⟩ (.slice A2 (s.as_.length + 1) c2)) base (.slice (some ⟨g, 0, none⟩) (s :: r).length c) (⟨s.kind, A2, as_ :: s.as_, c2⟩ :: r) := by
  have hown2 : OwnM w2 base 67 2 (.slice (some ⟨g, 0, none⟩) (s :: r).length c) (s :: r).length ((s :: r).flatMap Sg.cs) := hown
  refine ⟨?_, fun t ht => ?_⟩
  · have h2 := hown2.setIn (j := 1) (.slice A2 (s.as_.length + 1) c2) (by simp only [List.length_cons]; omega)
    have e := flat_set Sg.cs_len (s :: r) 0 s 1 (.slice A2 (s.as_.length + 1) c2) ⟨s.kind, A2, as_ :: s.as_, c2⟩ rfl (by decide) rfl
    rw [Nat.zero_mul, Nat.zero_add] at e
    rw [← e, List.set_cons_zero] at h2
    exact h2
  · have hk : ∀ {A : Option Addr} {xs : List Nat} {cp : Nat}, OwnL w2 base 22 1 u1 (.slice A xs.length cp) xs → OwnL (w2.setCell ⟨g, 1, none⟩ (.slice A2 (s.as_.length + 1) c2)) base 22 1 u1 (.slice A xs.length cp) xs := fun hx => OwnM.setCell hx (fun k hk e => own_ne hx hown2 (by decide) k hk (by rw [e]; rfl)) _
    rcases List.mem_cons.1 ht with rfl | ht
    · exact ⟨hk (xs := as_ :: s.as_) ho, hf, hkd⟩
    · have h1 := hr t ht
      exact ⟨hk h1.1, h1.2⟩
set_option maxRecDepth 100000 in
set_option maxHeartbeats 16000000 in
theorem rprep_any (A : Option Addr) (cap : Nat) (l : List Sg) (as_ : Nat) (conf : Bool) (w : World) (h : SegsOk w A cap l) (hsz : ∀ s ∈ l, s.as_.length * 4 ≤ 140737488351232) (hlz : l.length * 32 ≤ 140737488351232) (hf : as_ < 4294967296) :
    Calls Tryz.prog 45 #[.slice A l.length cap, .int .u32 (as_ : Nat), .bool conf] w (PrepP w (prepF (l.map Sg.c) as_ conf)) := by
  obtain ⟨i0, hi, hz0, hz1, hz2⟩ := info_parts inU32
  obtain ⟨i1, hj, hy0, hy1, hy2⟩ := info_parts inSeg
  have HI := Lib.hid hi
  have HZ0 := Lib.hid hz0
  have HZ1 := Lib.hid hz1
  have HZ2 := Lib.hid hz2
  have HJ := Lib.hid hj
  have HY0 := Lib.hid hy0
  have HY1 := Lib.hid hy1
  have HY2 := Lib.hid hy2
  clear hi hz0 hz1 hz2 hj hy0 hy1 hy2
  have HCH : Hid (Calls Tryz.prog 81 #[.slice A l.length cap] w fun e w' => e = .returned (.int .i64 (okN (pathOk (l.map Sg.c)))) ∧ w = w') := rpcheck_any A cap l w h
  have HCL : Hid (Calls Tryz.prog 65 #[.slice A l.length cap] w fun e w' => (∃ A c segs, e = .returned (.slice A l.length c) ∧ segs.length = l.length ∧ segs.map Sg.c = l.map Sg.c ∧ SegsO w' w.heap.size (.slice A segs.length c) segs) ∧ Below w.heap.size w w') := rownall_any A cap l w h.rd h.segs h.len h.cap hsz hlz
  have HF := Lib.hid hf
  clear h hsz hlz
  obtain ⟨POST, hP⟩ : ∃ P, P = PrepP w (prepF (l.map Sg.c) as_ conf) := ⟨_, rfl⟩
  rw [← hP]
  have HN : Hid (∀ x W, prepF (l.map Sg.c) as_ conf = ([], x) → Below w.heap.size w W → POST (.returned (.tuple #[.slice none 0 0, .int .i64 x])) W) := fun x W e hW => by rw [hP]; exact PrepP.none e hW
  have HY : Hid (∀ (W : World) A n cap segs c, prepF (l.map Sg.c) as_ conf = (c, 0) → segs.length = n → segs.map Sg.c = c → SegsO W w.heap.size (.slice A n cap) segs → Below w.heap.size w W → POST (.returned (.tuple #[.slice A n cap, .int .i64 0])) W) := fun W A n cap segs c e h1 h2 h3 h4 => by rw [hP, e]; exact ⟨A, n, cap, segs, rfl, h1, h2, h3, h4⟩
  clear hP
  obtain ⟨K, hK⟩ : ∃ K, K = segKind conf := ⟨_, rfl⟩
  have HK := Lib.hid hK
  have HKR : Hid (-9223372036854775808 ≤ K ∧ K ≤ 9223372036854775807) := by
    show _ ∧ _
    rw [hK]
    unfold segKind
    split <;> exact ⟨by decide, by decide⟩
  clear hK
  go_enter Tryz.func45, Tryz.ntmps45
  go_wp2_with fail
  refine HCH.out.mono ?_
  rintro e w1 ⟨rfl, hb1⟩
  subst w1
  clear HCH
  cases hp : pathOk (l.map Sg.c) with
  | false =>
    have HE : Hid (prepF (l.map Sg.c) as_ conf = ([], 2)) := prep_bad (.inl hp)
    have e1 : okN false = 2 := rfl
    rw [e1]
    clear hp
    go_wp2_with fail
    exact HN.out 2 _ HE.out (Below.refl _ _)
  | true =>
    have e1 : okN true = 0 := rfl
    rw [e1]
    have HOK := Lib.hid hp
    clear hp
    by_cases h0 : as_ = 0
    · have HE : Hid (prepF (l.map Sg.c) as_ conf = ([], 2)) := prep_bad (.inr h0)
      have h0b : ((as_ : Int) == 0) = true := by rw [h0]; rfl
      have h0c : (as_ == 0) = true := by rw [h0]; rfl
      clear h0
      go_wp2_with fail
      exact HN.out 2 _ HE.out (Below.refl _ _)
    · have h0b : ((as_ : Int) == 0) = false := beq_eq_false_iff_ne.2 (by omega)
      have h0c : (as_ == 0) = false := beq_eq_false_iff_ne.2 h0
      have H0 := Lib.hid h0
      clear h0
      go_upto_if 19 with fail
      go_cut [8] (fun v wx => v = .int .i64 K ∧ wx = w)
      case first =>
        cases conf with
        | true =>
          obtain rfl : K = 3 := HK.out
          go_wp2_with fail
          go_meet
          exact ⟨rfl, rfl⟩
        | false =>
          obtain rfl : K = 2 := HK.out
          go_wp2_with fail
          go_meet
          exact ⟨rfl, rfl⟩
      case rest =>
      obtain ⟨rfl, hwc⟩ := hcut
      subst hwc
      obtain ⟨w1, hw1⟩ : ∃ x, x = wc := ⟨_, rfl⟩
      subst hw1
      go_wp2_with fail
      refine HCL.out.mono ?_
      rintro e w2 ⟨⟨A1, c1, segs, rfl, h1, h2, h3⟩, hb2⟩
      have HB2 := Lib.hid hb2
      have HC2 := Lib.hid h2
      have HO2 : Hid (SegsO w2 w1.heap.size (.slice A1 segs.length c1) segs) := h3
      have h16 : segs.length ≤ 16 := by
        have h5 := pathOk_16 HOK.out
        rw [List.length_map] at h5
        omega
      rw [← h1]
      clear HCL hb2 h1 h2 h3
      have HZ : Hid (w1.heap.size ≤ w2.heap.size) := HB2.out.size
      cases segs with
      | nil =>
        have HE : Hid (prepF (l.map Sg.c) as_ conf = ((segKind conf, [as_]) :: l.map Sg.c, 0)) := by
          show _ = _
          rw [← HC2.out]
          exact prep_nil H0.out
        obtain ⟨b1, hb1⟩ : ∃ b, b = w2.heap.size := ⟨_, rfl⟩
        obtain ⟨V, hV⟩ : ∃ V, V = ((w2.alloc (.cells #[.int .u32 (as_ : Nat)] 22)).alloc (.cells #[.int .i64 K, .slice (some ⟨b1, 0, none⟩) 1 1] 67)) := ⟨_, rfl⟩
        have HV1 : Hid (CellsAt V b1 #[.int .u32 (as_ : Nat)] 22) := by rw [hV, hb1]; exact new1 _ _ _ _
        have HV2 : Hid (CellsAt V (b1 + 1) (Sg.cs ⟨K, some ⟨b1, 0, none⟩, [as_], 1⟩).toArray 67) := by
          show CellsAt V (b1 + 1) #[.int .i64 K, .slice (some ⟨b1, 0, none⟩) 1 1] 67
          rw [hV, hb1]
          exact new2b _ _ _ _
        have HBV : Hid (Below w2.heap.size w2 V) := by rw [hV]; exact below2 _ _ _
        have HVZ : Hid (w1.heap.size ≤ V.heap.size) := Nat.le_trans HZ.out HBV.out.size
        have HOV : Hid (SegsO V w1.heap.size (.slice A1 ([] : List Sg).length c1) ([] : List Sg)) := HO2.out.keep (fun i _ hi => HBV.out.block i hi)
        have HBX : Hid (b1 = w2.heap.size) := hb1
        have HXO : Hid (OwnL V w1.heap.size 67 2 Sg.cs (.slice (some ⟨b1 + 1, 0, none⟩) 1 1) [(⟨K, some ⟨b1, 0, none⟩, [as_], 1⟩ : Sg)]) := OwnM.new' (n := 1) HV2.out (by have := HZ.out; have := HBX.out; omega) rfl (by decide)
        have HSR : Hid (Src Tryz.prog V 28 2 (.slice A1 ([] : List Sg).length c1) ([] : List Sg).length (([] : List Sg).flatMap Sg.cs)) := Src.own Tryz.underlying28 HOV.out.own (ones_flat sg_ones _)
        have HLN : Hid (([] : List Sg).length ≤ 16) := by show _ ≤ _; omega
        rw [hb1] at hV
        go_upto_region 15 with fail
        rw [← hV, ← hb1]
        clear hV hb1
        go_wp2_with (at_builtin; refine wpList_append_m rfl (.tmp 62) (.tmp 63) 28 28 rfl w1.heap.size 67 i1 _ 2 32 Tryz.underlying28 HJ.out HY0.out HY1.out HY2.out rfl (by decide) (.slice (some ⟨b1 + 1, 0, none⟩) 1 1) 1 _ rfl HXO.out _ ([] : List Sg).length _ rfl HSR.out (by have := HLN.out; unfold maxLen; omega) (by have := HLN.out; omega) HVZ.out ?_)
        intro v' w3 hown hg3 hat
        obtain ⟨A3, c3, rfl⟩ := hown.form
        have hown' : OwnL w3 w1.heap.size 67 2 Sg.cs (.slice A3 (1 + ([] : List Sg).length) c3) ((⟨K, some ⟨b1, 0, none⟩, [as_], 1⟩ : Sg) :: ([] : List Sg)) := by
          show OwnM _ _ _ _ _ ((⟨K, some ⟨b1, 0, none⟩, [as_], 1⟩ : Sg) :: ([] : List Sg)).length _
          rw [show ((⟨K, some ⟨b1, 0, none⟩, [as_], 1⟩ : Sg) :: ([] : List Sg)).length = 1 + ([] : List Sg).length from Nat.add_comm _ _]
          exact hown
        have HO3 : Hid (SegsO w3 w1.heap.size (.slice A3 (1 + ([] : List Sg).length) c3) ((⟨K, some ⟨b1, 0, none⟩, [as_], 1⟩ : Sg) :: ([] : List Sg))) := ⟨hown', fun t ht => by
          rcases List.mem_cons.1 ht with rfl | ht
          · have h1 : OwnL V w1.heap.size 22 1 u1 (.slice (some ⟨b1, 0, none⟩) [as_].length 1) [as_] := OwnM.new' (n := 1) HV1.out (by rw [HBX.out]; exact HZ.out) rfl (by decide)
            refine ⟨OwnM.grown h1 hg3 (own_ne h1 HXO.out (by decide)), fun n hn => ?_, HKR.out⟩
            rw [List.mem_singleton.1 hn]
            exact HF.out
          · have h1 := HOV.out.as_ t ht
            exact ⟨OwnM.grown h1.1 hg3 (own_ne h1.1 HXO.out (by decide)), h1.2⟩⟩
        have HB3 : Hid (Below w1.heap.size w1 w3) := OwnM.below_grown HXO.out hg3 (HB2.out.trans (HBV.out.mono HB2.out.size)) HVZ.out (Nat.le_refl _)
        clear hown hown' hg3 hat
        go_wp2_with fail
        exact HY.out _ A3 _ c3 _ _ HE.out (Nat.add_comm _ _) (by rw [List.map_cons, HC2.out, HK.out]; rfl) HO3.out HB3.out
      | cons s r =>
        obtain ⟨g, cp, hv, hgb, hgl, hnc, hcm, hcell, hfrz⟩ := OwnM.cells HO2.out.own (by simp)
        simp only [Value.slice.injEq, true_and] at hv
        obtain ⟨rfl, rfl⟩ := hv
        have q0 : w2.cell? ⟨g, 0, none⟩ = some (.int .i64 s.kind) := hcell 0 _ rfl
        have q1 : w2.cell? ⟨g, 1, none⟩ = some (.slice s.A s.as_.length s.cap) := hcell 1 _ rfl
        have hcm2 : c1 ≤ 9223372036854775807 := hcm
        have hrl : (s :: r).length = r.length + 1 := rfl
        have h16r : r.length + 1 ≤ 16 := h16
        have HGL := Lib.hid hgl
        have HGB := Lib.hid hgb
        have hpos : ((0 : Int) < ((s :: r).length : Int)) := by rw [hrl]; omega
        have hposn : 0 < (s :: r).length := by rw [hrl]; omega
        have HOKP : Hid (pathOk ((s.kind, s.as_) :: r.map Sg.c) = true) := by
          show _ = _
          have h5 := HOK.out
          rw [← HC2.out] at h5
          exact h5
        have HCC : Hid (l.map Sg.c = (s.kind, s.as_) :: r.map Sg.c) := HC2.out.symm
        clear hcell hcm hgl hgb hfrz
        by_cases hin : s.kind = K ∧ s.as_.length < 255
        · obtain ⟨hk, hl255⟩ := hin
          have HE : Hid (prepF (l.map Sg.c) as_ conf = ((s.kind, as_ :: s.as_) :: r.map Sg.c, 0)) := by
            show _ = _
            rw [HCC.out]
            exact prep_in HOKP.out H0.out (hk.trans HK.out) hl255
          have hkb : (s.kind == K) = true := beq_iff_eq.2 hk
          have hd : decide ((s.as_.length : Int) < 255) = true := decide_eq_true (by omega)
          have hd2 : (s.as_.length : Int) < 255 := by omega
          have HS255 : Hid (s.as_.length < 255) := hl255
          obtain ⟨V, hV⟩ : ∃ V, V = w2.alloc (.cells #[.int .u32 (as_ : Nat)] 22) := ⟨_, rfl⟩
          obtain ⟨b1, hb1⟩ : ∃ b, b = w2.heap.size := ⟨_, rfl⟩
          have HV1 : Hid (CellsAt V b1 (u1 as_).toArray 22) := by rw [hV, hb1]; exact CellsAt.new _ _ _
          have HBV : Hid (Below w2.heap.size w2 V) := by rw [hV]; exact below1 _ _
          have HVZ : Hid (w1.heap.size ≤ V.heap.size) := Nat.le_trans HZ.out HBV.out.size
          have HOV : Hid (SegsO V w1.heap.size (.slice (some ⟨g, 0, none⟩) (s :: r).length c1) (s :: r)) := HO2.out.keep (fun i _ hi => HBV.out.block i hi)
          have HSL : Hid (OwnL V w1.heap.size 22 1 u1 (.slice s.A s.as_.length s.cap) s.as_) := (HOV.out.as_ s List.mem_cons_self).1
          have HXO : Hid (OwnL V w1.heap.size 22 1 u1 (.slice (some ⟨b1, 0, none⟩) 1 1) [as_]) := OwnM.new' (n := 1) HV1.out (by rw [hb1]; exact HZ.out) rfl (by decide)
          have HSR : Hid (Src Tryz.prog V 29 1 (.slice s.A s.as_.length s.cap) s.as_.length (s.as_.flatMap u1)) := Src.own Tryz.underlying29 HSL.out (ones_flat u1s_ones _)
          have HOLD : Hid (∀ (A : Option Addr) (n c : Nat), (∃ e C xs, OwnM w2 w1.heap.size e C (.slice A n c) n xs) → ∀ k, (Value.slice A n c).ownBlock = some k → some k ≠ some b1) := fun A n c ⟨e, C, xs, hx⟩ k hk e2 => by
            injection e2 with e2
            have := (OwnM.lt hx k hk).2
            omega
          rw [hk] at q0
          have HKS := Lib.hid hk
          clear hk hl255
          go_upto_region 9 with fail
          rw [← hV, ← hb1]
          have q1V : V.cell? ⟨g, 1, none⟩ = some (.slice s.A s.as_.length s.cap) := (HBV.out.cell (p := ⟨g, 1, none⟩) HGL.out).trans q1
          clear hV hb1 q0 q1
          go_wp2_with (at_builtin; refine wpList_append_m rfl (.tmp 43) (.tmp 47) 29 29 rfl w1.heap.size 22 i0 _ 1 4 Tryz.underlying29 HI.out HZ0.out HZ1.out HZ2.out rfl (by decide) (.slice (some ⟨b1, 0, none⟩) 1 1) 1 _ rfl HXO.out _ s.as_.length _ rfl HSR.out (by have := HS255.out; unfold maxLen; omega) (by have := HS255.out; omega) HVZ.out ?_)
          intro v' w3 hown hg3 hat
          obtain ⟨A3, c3, rfl⟩ := hown.form
          have hown' : OwnL w3 w1.heap.size 22 1 u1 (.slice A3 (s.as_.length + 1) c3) (as_ :: s.as_) := by
            have h5 := hown
            rw [Nat.add_comm] at h5
            exact h5
          have hO2 := HO2.out
          have HO3 : Hid (SegsO (w3.setCell ⟨g, 1, none⟩ (.slice A3 (s.as_.length + 1) c3)) w1.heap.size (.slice (some ⟨g, 0, none⟩) (s :: r).length c1) (⟨s.kind, A3, as_ :: s.as_, c3⟩ :: r)) := by
            have f1 : OwnL w3 w1.heap.size 67 2 Sg.cs (.slice (some ⟨g, 0, none⟩) (s :: r).length c1) (s :: r) := OwnM.grown HOV.out.own hg3 (HOLD.out _ _ _ ⟨_, _, _, hO2.own⟩)
            have f2 : ∀ t ∈ r, OwnL w3 w1.heap.size 22 1 u1 (.slice t.A t.as_.length t.cap) t.as_ ∧ (∀ n ∈ t.as_, n < 4294967296) ∧ -9223372036854775808 ≤ t.kind ∧ t.kind ≤ 9223372036854775807 := fun t ht => by
              have h6 := HOV.out.as_ t (List.mem_cons_of_mem _ ht)
              exact ⟨OwnM.grown h6.1 hg3 (HOLD.out _ _ _ ⟨_, _, _, (hO2.as_ t (List.mem_cons_of_mem _ ht)).1⟩), h6.2⟩
            have f3 := (HOV.out.as_ s List.mem_cons_self).2
            exact SegsO.head' f1 f2 A3 c3 as_ hown' (fun n hn => by
              rcases List.mem_cons.1 hn with rfl | hn
              · exact HF.out
              · exact f3.1 n hn) f3.2
          have HB3 : Hid (Below w1.heap.size w1 (w3.setCell ⟨g, 1, none⟩ (.slice A3 (s.as_.length + 1) c3))) := (OwnM.below_grown HXO.out hg3 (HB2.out.trans (HBV.out.mono HB2.out.size)) HVZ.out (Nat.le_refl _)).setCell HGB.out _
          have hgg : w3.heap[g]? = V.heap[g]? := hg3.block g (Nat.lt_of_lt_of_le HGL.out HBV.out.size) (fun e => HOLD.out _ _ _ ⟨_, _, _, hO2.own⟩ g rfl e)
          have q1 : w3.cell? ⟨g, 1, none⟩ = some (.slice s.A s.as_.length s.cap) := by
            rw [← q1V]
            unfold World.cell?
            rw [hgg]
          have q1f : w3.frozen? ⟨g, 1, none⟩ = false := by
            have h6 := (OwnM.there' HOV.out.own).2 1 (by simp only [List.length_cons]; omega)
            unfold World.frozen? at h6 ⊢
            rw [hgg]
            exact h6
          have HAC : Hid (1 + s.as_.length = s.as_.length + 1) := Nat.add_comm _ _
          rw [HAC.out]
          clear hown hown' hg3 hat hgg q1V hO2
          go_wp2_with fail
          exact HY.out _ _ _ c1 _ _ HE.out rfl rfl HO3.out HB3.out
        · by_cases h17 : (s :: r).length = 16
          · have HE : Hid (prepF (l.map Sg.c) as_ conf = ([], 3)) := by
              show _ = _
              rw [HCC.out]
              exact prep_long HOKP.out H0.out (by rw [← HK.out]; exact hin) (by simpa using h17)
            have h17b : (16 : Int) ≤ ((s :: r).length : Int) := by omega
            have h17c : decide ((16 : Int) ≤ ((s :: r).length : Int)) = true := decide_eq_true h17b
            have h17d : r.length + 1 = 16 := h17
            have h17e : r.length = 15 := by omega
            have h17f : 15 ≤ r.length := by omega
            by_cases hk : s.kind = K
            · have hkb : (s.kind == K) = true := beq_iff_eq.2 hk
              have hd : decide ((s.as_.length : Int) < 255) = false := decide_eq_false (fun h => hin ⟨hk, by omega⟩)
              have hd2 : ¬ ((s.as_.length : Int) < 255) := fun h => hin ⟨hk, by omega⟩
              rw [hk] at q0
              clear hk hin
              clear h17 h17d h17e
              go_wp2_with fail
              exact HN.out 3 _ HE.out HB2.out
            · have hkb : (s.kind == K) = false := beq_eq_false_iff_ne.2 hk
              clear hk hin
              clear h17 h17d h17e
              go_wp2_with fail
              exact HN.out 3 _ HE.out HB2.out
          · have HE : Hid (prepF (l.map Sg.c) as_ conf = ((segKind conf, [as_]) :: l.map Sg.c, 0)) := by
              show _ = _
              rw [HCC.out]
              exact prep_new HOKP.out H0.out (by rw [← HK.out]; exact hin) (by simpa using h17)
            have h17b : ¬ (16 : Int) ≤ ((s :: r).length : Int) := by omega
            have h17c : decide ((16 : Int) ≤ ((s :: r).length : Int)) = false := decide_eq_false h17b
            have h17f : ¬ 15 ≤ r.length := by omega
            by_cases hk : s.kind = K
            · have hkb : (s.kind == K) = true := beq_iff_eq.2 hk
              have hd : decide ((s.as_.length : Int) < 255) = false := decide_eq_false (fun h => hin ⟨hk, by omega⟩)
              have hd2 : ¬ ((s.as_.length : Int) < 255) := fun h => hin ⟨hk, by omega⟩
              rw [hk] at q0
              clear hk hin
              obtain ⟨b1, hb1⟩ : ∃ b, b = w2.heap.size := ⟨_, rfl⟩
              obtain ⟨V, hV⟩ : ∃ V, V = ((w2.alloc (.cells #[.int .u32 (as_ : Nat)] 22)).alloc (.cells #[.int .i64 K, .slice (some ⟨b1, 0, none⟩) 1 1] 67)) := ⟨_, rfl⟩
              have HV1 : Hid (CellsAt V b1 #[.int .u32 (as_ : Nat)] 22) := by rw [hV, hb1]; exact new1 _ _ _ _
              have HV2 : Hid (CellsAt V (b1 + 1) (Sg.cs ⟨K, some ⟨b1, 0, none⟩, [as_], 1⟩).toArray 67) := by
                show CellsAt V (b1 + 1) #[.int .i64 K, .slice (some ⟨b1, 0, none⟩) 1 1] 67
                rw [hV, hb1]
                exact new2b _ _ _ _
              have HBV : Hid (Below w2.heap.size w2 V) := by rw [hV]; exact below2 _ _ _
              have HVZ : Hid (w1.heap.size ≤ V.heap.size) := Nat.le_trans HZ.out HBV.out.size
              have HOV : Hid (SegsO V w1.heap.size (.slice (some ⟨g, 0, none⟩) (s :: r).length c1) (s :: r)) := HO2.out.keep (fun i _ hi => HBV.out.block i hi)
              have HBX : Hid (b1 = w2.heap.size) := hb1
              have HXO : Hid (OwnL V w1.heap.size 67 2 Sg.cs (.slice (some ⟨b1 + 1, 0, none⟩) 1 1) [(⟨K, some ⟨b1, 0, none⟩, [as_], 1⟩ : Sg)]) := OwnM.new' (n := 1) HV2.out (by have := HZ.out; have := HBX.out; omega) rfl (by decide)
              have HSR : Hid (Src Tryz.prog V 28 2 (.slice (some ⟨g, 0, none⟩) (s :: r).length c1) (s :: r).length ((s :: r).flatMap Sg.cs)) := Src.own Tryz.underlying28 HOV.out.own (ones_flat sg_ones _)
              have HLN : Hid ((s :: r).length ≤ 16) := by show _ ≤ _; omega
              rw [hb1] at hV
              go_upto_region 15 with fail
              rw [← hV, ← hb1]
              clear hV hb1
              go_wp2_with (at_builtin; refine wpList_append_m rfl (.tmp 62) (.tmp 63) 28 28 rfl w1.heap.size 67 i1 _ 2 32 Tryz.underlying28 HJ.out HY0.out HY1.out HY2.out rfl (by decide) (.slice (some ⟨b1 + 1, 0, none⟩) 1 1) 1 _ rfl HXO.out _ (s :: r).length _ rfl HSR.out (by have := HLN.out; unfold maxLen; omega) (by have := HLN.out; omega) HVZ.out ?_)
              intro v' w3 hown hg3 hat
              obtain ⟨A3, c3, rfl⟩ := hown.form
              have hown' : OwnL w3 w1.heap.size 67 2 Sg.cs (.slice A3 (1 + (s :: r).length) c3) ((⟨K, some ⟨b1, 0, none⟩, [as_], 1⟩ : Sg) :: (s :: r)) := by
                show OwnM _ _ _ _ _ ((⟨K, some ⟨b1, 0, none⟩, [as_], 1⟩ : Sg) :: (s :: r)).length _
                rw [show ((⟨K, some ⟨b1, 0, none⟩, [as_], 1⟩ : Sg) :: (s :: r)).length = 1 + (s :: r).length from Nat.add_comm _ _]
                exact hown
              have HO3 : Hid (SegsO w3 w1.heap.size (.slice A3 (1 + (s :: r).length) c3) ((⟨K, some ⟨b1, 0, none⟩, [as_], 1⟩ : Sg) :: (s :: r))) := ⟨hown', fun t ht => by
                rcases List.mem_cons.1 ht with rfl | ht
                · have h1 : OwnL V w1.heap.size 22 1 u1 (.slice (some ⟨b1, 0, none⟩) [as_].length 1) [as_] := OwnM.new' (n := 1) HV1.out (by rw [HBX.out]; exact HZ.out) rfl (by decide)
                  refine ⟨OwnM.grown h1 hg3 (own_ne h1 HXO.out (by decide)), fun n hn => ?_, HKR.out⟩
                  rw [List.mem_singleton.1 hn]
                  exact HF.out
                · have h1 := HOV.out.as_ t ht
                  exact ⟨OwnM.grown h1.1 hg3 (own_ne h1.1 HXO.out (by decide)), h1.2⟩⟩
              have HB3 : Hid (Below w1.heap.size w1 w3) := OwnM.below_grown HXO.out hg3 (HB2.out.trans (HBV.out.mono HB2.out.size)) HVZ.out (Nat.le_refl _)
              clear hown hown' hg3 hat
              go_wp2_with fail
              exact HY.out _ A3 _ c3 _ _ HE.out (Nat.add_comm _ _) (by rw [List.map_cons, HC2.out, HK.out]; rfl) HO3.out HB3.out
            · have hkb : (s.kind == K) = false := beq_eq_false_iff_ne.2 hk
              clear hk hin
              obtain ⟨b1, hb1⟩ : ∃ b, b = w2.heap.size := ⟨_, rfl⟩
              obtain ⟨V, hV⟩ : ∃ V, V = ((w2.alloc (.cells #[.int .u32 (as_ : Nat)] 22)).alloc (.cells #[.int .i64 K, .slice (some ⟨b1, 0, none⟩) 1 1] 67)) := ⟨_, rfl⟩
              have HV1 : Hid (CellsAt V b1 #[.int .u32 (as_ : Nat)] 22) := by rw [hV, hb1]; exact new1 _ _ _ _
              have HV2 : Hid (CellsAt V (b1 + 1) (Sg.cs ⟨K, some ⟨b1, 0, none⟩, [as_], 1⟩).toArray 67) := by
                show CellsAt V (b1 + 1) #[.int .i64 K, .slice (some ⟨b1, 0, none⟩) 1 1] 67
                rw [hV, hb1]
                exact new2b _ _ _ _
              have HBV : Hid (Below w2.heap.size w2 V) := by rw [hV]; exact below2 _ _ _
              have HVZ : Hid (w1.heap.size ≤ V.heap.size) := Nat.le_trans HZ.out HBV.out.size
              have HOV : Hid (SegsO V w1.heap.size (.slice (some ⟨g, 0, none⟩) (s :: r).length c1) (s :: r)) := HO2.out.keep (fun i _ hi => HBV.out.block i hi)
              have HBX : Hid (b1 = w2.heap.size) := hb1
              have HXO : Hid (OwnL V w1.heap.size 67 2 Sg.cs (.slice (some ⟨b1 + 1, 0, none⟩) 1 1) [(⟨K, some ⟨b1, 0, none⟩, [as_], 1⟩ : Sg)]) := OwnM.new' (n := 1) HV2.out (by have := HZ.out; have := HBX.out; omega) rfl (by decide)
              have HSR : Hid (Src Tryz.prog V 28 2 (.slice (some ⟨g, 0, none⟩) (s :: r).length c1) (s :: r).length ((s :: r).flatMap Sg.cs)) := Src.own Tryz.underlying28 HOV.out.own (ones_flat sg_ones _)
              have HLN : Hid ((s :: r).length ≤ 16) := by show _ ≤ _; omega
              rw [hb1] at hV
              go_upto_region 15 with fail
              rw [← hV, ← hb1]
              clear hV hb1
              go_wp2_with (at_builtin; refine wpList_append_m rfl (.tmp 62) (.tmp 63) 28 28 rfl w1.heap.size 67 i1 _ 2 32 Tryz.underlying28 HJ.out HY0.out HY1.out HY2.out rfl (by decide) (.slice (some ⟨b1 + 1, 0, none⟩) 1 1) 1 _ rfl HXO.out _ (s :: r).length _ rfl HSR.out (by have := HLN.out; unfold maxLen; omega) (by have := HLN.out; omega) HVZ.out ?_)
              intro v' w3 hown hg3 hat
              obtain ⟨A3, c3, rfl⟩ := hown.form
              have hown' : OwnL w3 w1.heap.size 67 2 Sg.cs (.slice A3 (1 + (s :: r).length) c3) ((⟨K, some ⟨b1, 0, none⟩, [as_], 1⟩ : Sg) :: (s :: r)) := by
                show OwnM _ _ _ _ _ ((⟨K, some ⟨b1, 0, none⟩, [as_], 1⟩ : Sg) :: (s :: r)).length _
                rw [show ((⟨K, some ⟨b1, 0, none⟩, [as_], 1⟩ : Sg) :: (s :: r)).length = 1 + (s :: r).length from Nat.add_comm _ _]
                exact hown
              have HO3 : Hid (SegsO w3 w1.heap.size (.slice A3 (1 + (s :: r).length) c3) ((⟨K, some ⟨b1, 0, none⟩, [as_], 1⟩ : Sg) :: (s :: r))) := ⟨hown', fun t ht => by
                rcases List.mem_cons.1 ht with rfl | ht
                · have h1 : OwnL V w1.heap.size 22 1 u1 (.slice (some ⟨b1, 0, none⟩) [as_].length 1) [as_] := OwnM.new' (n := 1) HV1.out (by rw [HBX.out]; exact HZ.out) rfl (by decide)
                  refine ⟨OwnM.grown h1 hg3 (own_ne h1 HXO.out (by decide)), fun n hn => ?_, HKR.out⟩
                  rw [List.mem_singleton.1 hn]
                  exact HF.out
                · have h1 := HOV.out.as_ t ht
                  exact ⟨OwnM.grown h1.1 hg3 (own_ne h1.1 HXO.out (by decide)), h1.2⟩⟩
              have HB3 : Hid (Below w1.heap.size w1 w3) := OwnM.below_grown HXO.out hg3 (HB2.out.trans (HBV.out.mono HB2.out.size)) HVZ.out (Nat.le_refl _)
              clear hown hown' hg3 hat
              go_wp2_with fail
              exact HY.out _ A3 _ c3 _ _ HE.out (Nat.add_comm _ _) (by rw [List.map_cons, HC2.out, HK.out]; rfl) HO3.out HB3.out
end Go.Proofs.YtojiieghjhjoaaaGreat
