/-
  Several texts in one.
-/
import Derived.Test.YtojiieghjhjoaaaGreatKN32
set_option linter.unusedVariables false
set_option linter.unusedSimpArgs false
namespace Go.Proofs.YtojiieghjhjoaaaGreat
open Go.RowKit Go.MapKept Go.Shelf
open Go.Lib hiding intOf

/-- what Prepend answers -/
def PrepP (w0 : World) (c : List (Int × List Nat) × Int) (e : Ending) (w' : World) : Prop := ∃ A n cap segs, e = .returned (.tuple #[.slice A n cap, .int .i64 c.2]) ∧ segs.length = n ∧ segs.map Sg.c = c.1 ∧ SegsO w' w0.heap.size (.slice A n cap) segs ∧ Below w0.heap.size w0 w'
theorem PrepP.none {w0 w' : World} {c : List (Int × List Nat) × Int} {x : Int} (h : c = ([], x)) (hb : Below w0.heap.size w0 w') : PrepP w0 c (.returned (.tuple #[.slice none 0 0, .int .i64 x])) w' := by
  subst h
  exact ⟨Option.none, 0, 0, [], rfl, rfl, rfl, SegsO.nil _ _, hb⟩
theorem prep_bad {l : List (Int × List Nat)} {as_ : Nat} {conf : Bool} (h : pathOk l = false ∨ as_ = 0) : prepF l as_ conf = ([], 2) := by unfold prepF; rw [if_pos h]
theorem prep_nil {as_ : Nat} {conf : Bool} (h : as_ ≠ 0) : prepF [] as_ conf = ([(segKind conf, [as_])], 0) := by
  unfold prepF
  rw [if_neg]
  rintro (h1 | h1)
  · exact absurd h1 (by decide)
  · exact h h1
theorem prep_in {s : Int × List Nat} {r : List (Int × List Nat)} {as_ : Nat} {conf : Bool} (h : pathOk (s :: r) = true) (h0 : as_ ≠ 0) (hk : s.1 = segKind conf) (hl : s.2.length < 255) : prepF (s :: r) as_ conf = ((s.1, as_ :: s.2) :: r, 0) := by
  unfold prepF
  rw [if_neg (by rw [h]; simp [h0]), ]
  simp only [hk, hl, and_self, if_true]
theorem prep_long {s : Int × List Nat} {r : List (Int × List Nat)} {as_ : Nat} {conf : Bool} (h : pathOk (s :: r) = true) (h0 : as_ ≠ 0) (hn : ¬ (s.1 = segKind conf ∧ s.2.length < 255)) (hl : (s :: r).length = 16) : prepF (s :: r) as_ conf = ([], 3) := by
  unfold prepF
  rw [if_neg (by rw [h]; simp [h0])]
  show (if _ then _ else if _ then _ else _) = _
  rw [if_neg hn, if_pos hl]
theorem prep_new {s : Int × List Nat} {r : List (Int × List Nat)} {as_ : Nat} {conf : Bool} (h : pathOk (s :: r) = true) (h0 : as_ ≠ 0) (hn : ¬ (s.1 = segKind conf ∧ s.2.length < 255)) (hl : (s :: r).length ≠ 16) : prepF (s :: r) as_ conf = ((segKind conf, [as_]) :: s :: r, 0) := by
  unfold prepF
  rw [if_neg (by rw [h]; simp [h0])]
  show (if _ then _ else if _ then _ else _) = _
  rw [if_neg hn, if_neg hl]
theorem pathOk_16 {l : List (Int × List Nat)} (h : pathOk l = true) : l.length ≤ 16 := by
  unfold pathOk at h
  simp only [Bool.and_eq_true, decide_eq_true_eq] at h
  exact h.1
/-- the first segment's list has turned, and is laid -/
theorem SegsO.head {w w2 : World} {base g c : Nat} {s : Sg} {r : List Sg} (h : SegsO w base (.slice (some ⟨g, 0, none⟩) (s :: r).length c) (s :: r)) (hap : Apart (s :: r)) (A2 : Option Addr) (c2 as_ : Nat)
    (ho : OwnL w2 base 22 1 u1 (.slice A2 (s.as_.length + 1) c2) (as_ :: s.as_)) (hg : w.grownBy w2 (Value.slice s.A s.as_.length s.cap).ownBlock) (hf : as_ < 4294967296) :
    SegsO (w2.setCell ⟨g, 1, none⟩ (.slice A2 (s.as_.length + 1) c2)) base (.slice (some ⟨g, 0, none⟩) (s :: r).length c) (⟨s.kind, A2, as_ :: s.as_, c2⟩ :: r) := by
  have h0 := h.as_ s List.mem_cons_self
  have hown2 : OwnM w2 base 67 2 (.slice (some ⟨g, 0, none⟩) (s :: r).length c) (s :: r).length ((s :: r).flatMap Sg.cs) := OwnM.grown h.own hg (own_ne h.own h0.1 (by decide))
  have hlen : (⟨s.kind, A2, as_ :: s.as_, c2⟩ :: r : List Sg).length = (s :: r).length := rfl
  refine ⟨?_, fun t ht => ?_⟩
  · have h2 := hown2.setIn (j := 1) (.slice A2 (s.as_.length + 1) c2) (by simp only [List.length_cons]; omega)
    have e := flat_set Sg.cs_len (s :: r) 0 s 1 (.slice A2 (s.as_.length + 1) c2) ⟨s.kind, A2, as_ :: s.as_, c2⟩ rfl (by decide) rfl
    rw [Nat.zero_mul, Nat.zero_add] at e
    rw [← e, List.set_cons_zero] at h2
    exact h2
  · have hk : ∀ {A : Option Addr} {xs : List Nat} {cp : Nat}, OwnL w2 base 22 1 u1 (.slice A xs.length cp) xs → OwnL (w2.setCell ⟨g, 1, none⟩ (.slice A2 (s.as_.length + 1) c2)) base 22 1 u1 (.slice A xs.length cp) xs := fun hx => OwnM.setCell hx (fun k hk e => own_ne hx hown2 (by decide) k hk (by rw [e]; rfl)) _
    rcases List.mem_cons.1 ht with rfl | ht
    · refine ⟨hk (xs := as_ :: s.as_) ho, fun n hn => ?_, h0.2.2.1, h0.2.2.2⟩
      rcases List.mem_cons.1 hn with rfl | hn
      · exact hf
      · exact h0.2.1 n hn
    · have h1 := h.as_ t (List.mem_cons_of_mem _ ht)
      have hne := (List.pairwise_cons.1 hap).1 t ht
      exact ⟨hk (OwnM.grown h1.1 hg (fun k hk e => hne k e.symm hk)), h1.2⟩
/-- a new segment ahead -/
theorem SegsO.cons {w w2 : World} {base c c2 b1 : Nat} {A A2 : Option Addr} {segs : List Sg} {kind : Int} {as_ : Nat} (h : SegsO w base (.slice A segs.length c) segs) (hb : CellsAt w b1 #[.int .u32 (as_ : Nat)] 22) (hbb : base ≤ b1)
    (ho : OwnL w2 base 67 2 Sg.cs (.slice A2 (segs.length + 1) c2) ((⟨kind, some ⟨b1, 0, none⟩, [as_], 1⟩ : Sg) :: segs)) (hg : w.grownBy w2 (Value.slice A segs.length c).ownBlock) (hf : as_ < 4294967296) (hk : -9223372036854775808 ≤ kind ∧ kind ≤ 9223372036854775807) :
    SegsO w2 base (.slice A2 (segs.length + 1) c2) ((⟨kind, some ⟨b1, 0, none⟩, [as_], 1⟩ : Sg) :: segs) := by
  refine ⟨ho, fun t ht => ?_⟩
  rcases List.mem_cons.1 ht with rfl | ht
  · have h1 : OwnL w base 22 1 u1 (.slice (some ⟨b1, 0, none⟩) [as_].length 1) [as_] := OwnM.new' (n := 1) hb hbb rfl (by decide)
    refine ⟨OwnM.grown h1 hg (own_ne h1 h.own (by decide)), fun n hn => ?_, hk⟩
    rw [List.mem_singleton.1 hn]
    exact hf
  · have h1 := h.as_ t ht
    exact ⟨OwnM.grown h1.1 hg (own_ne h1.1 h.own (by decide)), h1.2⟩
set_option maxRecDepth 100000 in
set_option maxHeartbeats 16000000 in
theorem prep_any (A : Option Addr) (cap : Nat) (l : List Sg) (as_ : Nat) (conf : Bool) (w : World) (h : SegsOk w A cap l) (hsz : ∀ s ∈ l, s.as_.length * 4 ≤ 140737488351232) (hlz : l.length * 32 ≤ 140737488351232) (hf : as_ < 4294967296) :
    Calls Tryz.prog 100 #[.slice A l.length cap, .int .u32 (as_ : Nat), .bool conf] w (PrepP w (prepF (l.map Sg.c) as_ conf)) := by
  have HCH := Lib.hid (pcheck_any A cap l w h)
  have HCL : Hid (∀ W, Below w.heap.size w W → Calls Tryz.prog 64 #[.slice A l.length cap] W fun e w' => (∃ A' c segs, e = .returned (.slice A' l.length c) ∧ segs.length = l.length ∧ segs.map Sg.c = l.map Sg.c ∧ SegsO w' W.heap.size (.slice A' l.length c) segs ∧ Apart segs) ∧ Below W.heap.size W w') := fun W hW => clone_any A cap l W (h.below hW (Nat.le_refl _)) hsz hlz
  have HI1 := Lib.hid ins_u32
  have HI2 := Lib.hid ins_seg
  have HF := Lib.hid hf
  clear h hsz hlz
  obtain ⟨POST, hP⟩ : ∃ P, P = PrepP w (prepF (l.map Sg.c) as_ conf) := ⟨_, rfl⟩
  rw [← hP]
  have HN : Hid (∀ x W, prepF (l.map Sg.c) as_ conf = ([], x) → Below w.heap.size w W → POST (.returned (.tuple #[.slice none 0 0, .int .i64 x])) W) := fun x W e hW => by rw [hP]; exact PrepP.none e hW
  have HY : Hid (∀ (W : World) A n cap segs c, prepF (l.map Sg.c) as_ conf = (c, 0) → segs.length = n → segs.map Sg.c = c → SegsO W w.heap.size (.slice A n cap) segs → Below w.heap.size w W → POST (.returned (.tuple #[.slice A n cap, .int .i64 0])) W) := fun W A n cap segs c e h1 h2 h3 h4 => by rw [hP, e]; exact ⟨A, n, cap, segs, rfl, h1, h2, h3, h4⟩
  clear hP
  obtain ⟨K, hK⟩ : ∃ K, K = segKind conf := ⟨_, rfl⟩
  have HK := Lib.hid hK
  have HKR : Hid (-9223372036854775808 ≤ K ∧ K ≤ 9223372036854775807) := by
    show _ ∧ _
    rw [hK]
    unfold segKind
    split <;> exact ⟨by decide, by decide⟩
  clear hK
  go_enter Tryz.func100, Tryz.ntmps100
  go_wp2_with fail
  refine HCH.out.mono ?_
  rintro e w1 ⟨rfl, hb1⟩
  have HB1 := Lib.hid hb1
  clear HCH hb1
  cases hp : pathOk (l.map Sg.c) with
  | false =>
    have HE : Hid (prepF (l.map Sg.c) as_ conf = ([], 2)) := prep_bad (.inl hp)
    have e1 : okN false = 2 := rfl
    rw [e1]
    clear hp
    go_wp2_with fail
    exact HN.out 2 _ HE.out HB1.out
  | true =>
    have e1 : okN true = 0 := rfl
    rw [e1]
    have HOK := Lib.hid hp
    clear hp
    by_cases h0 : as_ = 0
    · have HE : Hid (prepF (l.map Sg.c) as_ conf = ([], 2)) := prep_bad (.inr h0)
      have h0b : ((as_ : Int) == 0) = true := by rw [h0]; rfl
      have h0c : (as_ == 0) = true := by rw [h0]; rfl
      clear h0
      go_wp2_with fail
      exact HN.out 2 _ HE.out HB1.out
    · have h0b : ((as_ : Int) == 0) = false := beq_eq_false_iff_ne.2 (by omega)
      have h0c : (as_ == 0) = false := beq_eq_false_iff_ne.2 h0
      have H0 := Lib.hid h0
      clear h0
      go_upto_if 17 with fail
      go_cut [8] (fun v wx => v = .int .i64 K ∧ wx = w1)
      case first =>
        cases conf with
        | true =>
          obtain rfl : K = 3 := HK.out
          go_wp2_with fail
          go_meet
          exact ⟨rfl, rfl⟩
        | false =>
          obtain rfl : K = 2 := HK.out
          go_wp2_with fail
          go_meet
          exact ⟨rfl, rfl⟩
      case rest =>
      obtain ⟨rfl, hwc⟩ := hcut
      subst hwc
      obtain ⟨w1, hw1⟩ : ∃ x, x = wc := ⟨_, rfl⟩
      subst hw1
      go_wp2_with fail
      refine (HCL.out _ HB1.out).mono ?_
      rintro e w2 ⟨⟨A1, c1, segs, rfl, h1, h2, h3, h4⟩, hb2⟩
      have HB2 : Hid (Below w.heap.size w w2) := HB1.out.trans (hb2.mono HB1.out.size)
      have HC2 := Lib.hid h2
      have HO2 : Hid (SegsO w2 w.heap.size (.slice A1 segs.length c1) segs) := by rw [h1]; exact h3.lower HB1.out.size
      have HAP := Lib.hid h4
      have h16 : segs.length ≤ 16 := by
        have h5 := pathOk_16 HOK.out
        rw [List.length_map] at h5
        omega
      rw [← h1]
      clear HCL hb2 h1 h2 h3 h4 HB1
      have HZ : Hid (w.heap.size ≤ w2.heap.size) := HB2.out.size
      cases segs with
      | nil =>
        have HE : Hid (prepF (l.map Sg.c) as_ conf = ((segKind conf, [as_]) :: l.map Sg.c, 0)) := by
          show _ = _
          rw [← HC2.out]
          exact prep_nil H0.out
        obtain ⟨b1, hb1⟩ : ∃ b, b = w2.heap.size := ⟨_, rfl⟩
        obtain ⟨V, hV⟩ : ∃ V, V = (w2.alloc (.cells #[.int .u32 (as_ : Nat)] 22)).alloc (.cells #[.int .i64 K, .slice (some ⟨b1, 0, none⟩) 1 1] 67) := ⟨_, rfl⟩
        have HV1 : Hid (CellsAt V b1 #[.int .u32 (as_ : Nat)] 22) := by rw [hV, hb1]; exact new1 _ _ _ _
        have HV2 : Hid (CellsAt V (b1 + 1) (Sg.cs ⟨K, some ⟨b1, 0, none⟩, [as_], 1⟩).toArray 67) := by
          show CellsAt V (b1 + 1) #[.int .i64 K, .slice (some ⟨b1, 0, none⟩) 1 1] 67
          rw [hV, hb1]
          exact new2b _ _ _ _
        have HBV : Hid (Below w2.heap.size w2 V) := by rw [hV]; exact below2 _ _ _
        have HVZ : Hid (w.heap.size ≤ V.heap.size) := Nat.le_trans HZ.out HBV.out.size
        have HOV : Hid (SegsO V w.heap.size (.slice A1 ([] : List Sg).length c1) ([] : List Sg)) := HO2.out.keep (fun i _ hi => HBV.out.block i hi)
        have HBX : Hid (b1 = w2.heap.size) := hb1
        have HOB : Hid ((Value.slice A1 ([] : List Sg).length c1).ownBlock ≠ some (b1 + 1)) := fun e => by
          have h5 := (OwnM.lt HO2.out.own _ e).2
          rw [← HBX.out] at h5
          omega
        rw [hb1] at hV
        go_upto_region 7 with fail
        go_wp2_with fail
        rw [← hV, ← hb1]
        clear hV hb1
        refine (HI2.out w.heap.size (.slice A1 ([] : List Sg).length c1) ([] : List Sg) ⟨K, some ⟨b1, 0, none⟩, [as_], 1⟩ (b1 + 1) V HOV.out.own HVZ.out HV2.out HOB.out (by omega)).mono ?_
        rintro e w3 ⟨A3, c3, rfl, ho3, hg3⟩
        have HO3 : Hid (SegsO w3 w.heap.size (.slice A3 (([] : List Sg).length + 1) c3) ((⟨K, some ⟨b1, 0, none⟩, [as_], 1⟩ : Sg) :: ([] : List Sg))) := SegsO.cons HOV.out HV1.out (by rw [HBX.out]; exact HZ.out) ho3 hg3 HF.out HKR.out
        have HB3 : Hid (Below w.heap.size w w3) := OwnM.below_grown HOV.out.own hg3 (HB2.out.trans (HBV.out.mono HB2.out.size)) HVZ.out (Nat.le_refl _)
        clear ho3 hg3
        go_wp2_with fail
        exact HY.out _ A3 _ c3 _ _ HE.out rfl (by rw [List.map_cons, HC2.out, HK.out]; rfl) HO3.out HB3.out
      | cons s r =>
        obtain ⟨g, cp, hv, hgb, hgl, hnc, hcm, hcell, hfrz⟩ := OwnM.cells HO2.out.own (by simp)
        simp only [Value.slice.injEq, true_and] at hv
        obtain ⟨rfl, rfl⟩ := hv
        have q0 : w2.cell? ⟨g, 0, none⟩ = some (.int .i64 s.kind) := hcell 0 _ rfl
        have q1 : w2.cell? ⟨g, 1, none⟩ = some (.slice s.A s.as_.length s.cap) := hcell 1 _ rfl
        have hcm2 : c1 ≤ 9223372036854775807 := hcm
        have hrl : (s :: r).length = r.length + 1 := rfl
        have h16r : r.length + 1 ≤ 16 := h16
        have HGL := Lib.hid hgl
        have HGB := Lib.hid hgb
        have hpos : ((0 : Int) < ((s :: r).length : Int)) := by rw [hrl]; omega
        have hposn : 0 < (s :: r).length := by rw [hrl]; omega
        have HOKP : Hid (pathOk ((s.kind, s.as_) :: r.map Sg.c) = true) := by
          show _ = _
          have h5 := HOK.out
          rw [← HC2.out] at h5
          exact h5
        have HCC : Hid (l.map Sg.c = (s.kind, s.as_) :: r.map Sg.c) := HC2.out.symm
        clear hcell hcm hgl hgb hfrz
        by_cases hin : s.kind = K ∧ s.as_.length < 255
        · obtain ⟨hk, hl255⟩ := hin
          have HE : Hid (prepF (l.map Sg.c) as_ conf = ((s.kind, as_ :: s.as_) :: r.map Sg.c, 0)) := by
            show _ = _
            rw [HCC.out]
            exact prep_in HOKP.out H0.out (hk.trans HK.out) hl255
          have hkb : (s.kind == K) = true := beq_iff_eq.2 hk
          have hd : decide ((s.as_.length : Int) < 255) = true := decide_eq_true (by omega)
          have hd2 : (s.as_.length : Int) < 255 := by omega
          have HS255 : Hid (s.as_.length < 255) := hl255
          obtain ⟨V, hV⟩ : ∃ V, V = w2.alloc (.cells #[.int .u32 (as_ : Nat)] 22) := ⟨_, rfl⟩
          obtain ⟨b1, hb1⟩ : ∃ b, b = w2.heap.size := ⟨_, rfl⟩
          have HV1 : Hid (CellsAt V b1 (u1 as_).toArray 22) := by rw [hV, hb1]; exact CellsAt.new _ _ _
          have HBV : Hid (Below w2.heap.size w2 V) := by rw [hV]; exact below1 _ _
          have HVZ : Hid (w.heap.size ≤ V.heap.size) := Nat.le_trans HZ.out HBV.out.size
          have HOV : Hid (SegsO V w.heap.size (.slice (some ⟨g, 0, none⟩) (s :: r).length c1) (s :: r)) := HO2.out.keep (fun i _ hi => HBV.out.block i hi)
          have HSL : Hid (OwnL V w.heap.size 22 1 u1 (.slice s.A s.as_.length s.cap) s.as_) := (HOV.out.as_ s List.mem_cons_self).1
          have HOB : Hid ((Value.slice s.A s.as_.length s.cap).ownBlock ≠ some b1) := fun e => by
            have h5 := (OwnM.lt (HO2.out.as_ s List.mem_cons_self).1 _ e).2
            omega
          have hfz2 : w2.frozen? ⟨g, 1, none⟩ = false := (OwnM.there' HO2.out.own).2 1 (by simp only [List.length_cons]; omega)
          rw [hk] at q0
          clear hk hl255
          go_upto_region 9 with fail
          go_wp2_with fail
          rw [← hV, ← hb1]
          clear hV hb1 q0 q1
          refine (HI1.out w.heap.size (.slice s.A s.as_.length s.cap) s.as_ as_ b1 V HSL.out HVZ.out HV1.out HOB.out (by have := HS255.out; omega)).mono ?_
          rintro e w3 ⟨A3, c3, rfl, ho3, hg3⟩
          have HO3 : Hid (SegsO (w3.setCell ⟨g, 1, none⟩ (.slice A3 (s.as_.length + 1) c3)) w.heap.size (.slice (some ⟨g, 0, none⟩) (s :: r).length c1) (⟨s.kind, A3, as_ :: s.as_, c3⟩ :: r)) := HOV.out.head HAP.out A3 c3 as_ ho3 hg3 HF.out
          have HB3 : Hid (Below w.heap.size w (w3.setCell ⟨g, 1, none⟩ (.slice A3 (s.as_.length + 1) c3))) := (OwnM.below_grown HSL.out hg3 (HB2.out.trans (HBV.out.mono HB2.out.size)) HVZ.out (Nat.le_refl _)).setCell HGB.out _
          have hgg : w3.heap[g]? = V.heap[g]? := hg3.block g (Nat.lt_of_lt_of_le HGL.out HBV.out.size) (fun e => own_ne HOV.out.own HSL.out (by decide) g rfl e)
          have q1 : (w3.cell? ⟨g, 1, none⟩).isSome = true := by
            have h6 := (OwnM.there' HOV.out.own).1 1 (by simp only [List.length_cons]; omega)
            unfold World.cell? at h6 ⊢
            rw [hgg]
            exact h6
          have q1f : w3.frozen? ⟨g, 1, none⟩ = false := by
            have h6 := (OwnM.there' HOV.out.own).2 1 (by simp only [List.length_cons]; omega)
            unfold World.frozen? at h6 ⊢
            rw [hgg]
            exact h6
          obtain ⟨u1x, q1x⟩ := Option.isSome_iff_exists.1 q1
          clear ho3 hg3 hgg q1
          go_wp2_with fail
          exact HY.out _ _ _ c1 _ _ HE.out rfl rfl HO3.out HB3.out
        · by_cases h17 : (s :: r).length = 16
          · have HE : Hid (prepF (l.map Sg.c) as_ conf = ([], 3)) := by
              show _ = _
              rw [HCC.out]
              exact prep_long HOKP.out H0.out (by rw [← HK.out]; exact hin) (by simpa using h17)
            have h17b : (((s :: r).length : Int) == 16) = true := by rw [h17]; rfl
            have h17c : ((s :: r).length == 16) = true := by rw [h17]; rfl
            have h17d : r.length + 1 = 16 := h17
            have h17e : r.length = 15 := by omega
            by_cases hk : s.kind = K
            · have hkb : (s.kind == K) = true := beq_iff_eq.2 hk
              have hd : decide ((s.as_.length : Int) < 255) = false := decide_eq_false (fun h => hin ⟨hk, by omega⟩)
              have hd2 : ¬ ((s.as_.length : Int) < 255) := fun h => hin ⟨hk, by omega⟩
              rw [hk] at q0
              clear hk hin
              clear h17 h17d h17e
              go_wp2_with fail
              exact HN.out 3 _ HE.out HB2.out
            · have hkb : (s.kind == K) = false := beq_eq_false_iff_ne.2 hk
              clear hk hin
              clear h17 h17d h17e
              go_wp2_with fail
              exact HN.out 3 _ HE.out HB2.out
          · have HE : Hid (prepF (l.map Sg.c) as_ conf = ((segKind conf, [as_]) :: l.map Sg.c, 0)) := by
              show _ = _
              rw [HCC.out]
              exact prep_new HOKP.out H0.out (by rw [← HK.out]; exact hin) (by simpa using h17)
            have h17b : (((s :: r).length : Int) == 16) = false := beq_eq_false_iff_ne.2 (by omega)
            have h17c : ((s :: r).length == 16) = false := beq_eq_false_iff_ne.2 h17
            have h17d : ¬ r.length + 1 = 16 := h17
            have h17e : ¬ r.length = 15 := by omega
            have A1 : Option Addr := some ⟨g, 0, none⟩
            by_cases hk : s.kind = K
            · have hkb : (s.kind == K) = true := beq_iff_eq.2 hk
              have hd : decide ((s.as_.length : Int) < 255) = false := decide_eq_false (fun h => hin ⟨hk, by omega⟩)
              have hd2 : ¬ ((s.as_.length : Int) < 255) := fun h => hin ⟨hk, by omega⟩
              rw [hk] at q0
              clear hk hin
              obtain ⟨b1, hb1⟩ : ∃ b, b = w2.heap.size := ⟨_, rfl⟩
              obtain ⟨V, hV⟩ : ∃ V, V = (w2.alloc (.cells #[.int .u32 (as_ : Nat)] 22)).alloc (.cells #[.int .i64 K, .slice (some ⟨b1, 0, none⟩) 1 1] 67) := ⟨_, rfl⟩
              have HV1 : Hid (CellsAt V b1 #[.int .u32 (as_ : Nat)] 22) := by rw [hV, hb1]; exact new1 _ _ _ _
              have HV2 : Hid (CellsAt V (b1 + 1) (Sg.cs ⟨K, some ⟨b1, 0, none⟩, [as_], 1⟩).toArray 67) := by
                show CellsAt V (b1 + 1) #[.int .i64 K, .slice (some ⟨b1, 0, none⟩) 1 1] 67
                rw [hV, hb1]
                exact new2b _ _ _ _
              have HBV : Hid (Below w2.heap.size w2 V) := by rw [hV]; exact below2 _ _ _
              have HVZ : Hid (w.heap.size ≤ V.heap.size) := Nat.le_trans HZ.out HBV.out.size
              have HOV : Hid (SegsO V w.heap.size (.slice (some ⟨g, 0, none⟩) (s :: r).length c1) (s :: r)) := HO2.out.keep (fun i _ hi => HBV.out.block i hi)
              have HBX : Hid (b1 = w2.heap.size) := hb1
              have HOB : Hid ((Value.slice (some ⟨g, 0, none⟩) (s :: r).length c1).ownBlock ≠ some (b1 + 1)) := fun e => by
                have h5 := (OwnM.lt HO2.out.own _ e).2
                rw [← HBX.out] at h5
                omega
              rw [hb1] at hV
              go_upto_region 7 with fail
              go_wp2_with fail
              rw [← hV, ← hb1]
              clear hV hb1
              refine (HI2.out w.heap.size (.slice (some ⟨g, 0, none⟩) (s :: r).length c1) (s :: r) ⟨K, some ⟨b1, 0, none⟩, [as_], 1⟩ (b1 + 1) V HOV.out.own HVZ.out HV2.out HOB.out (by omega)).mono ?_
              rintro e w3 ⟨A3, c3, rfl, ho3, hg3⟩
              have HO3 : Hid (SegsO w3 w.heap.size (.slice A3 ((s :: r).length + 1) c3) ((⟨K, some ⟨b1, 0, none⟩, [as_], 1⟩ : Sg) :: (s :: r))) := SegsO.cons HOV.out HV1.out (by rw [HBX.out]; exact HZ.out) ho3 hg3 HF.out HKR.out
              have HB3 : Hid (Below w.heap.size w w3) := OwnM.below_grown HOV.out.own hg3 (HB2.out.trans (HBV.out.mono HB2.out.size)) HVZ.out (Nat.le_refl _)
              clear ho3 hg3
              go_wp2_with fail
              exact HY.out _ A3 _ c3 _ _ HE.out rfl (by rw [List.map_cons, HC2.out, HK.out]; rfl) HO3.out HB3.out
            · have hkb : (s.kind == K) = false := beq_eq_false_iff_ne.2 hk
              clear hk hin
              obtain ⟨b1, hb1⟩ : ∃ b, b = w2.heap.size := ⟨_, rfl⟩
              obtain ⟨V, hV⟩ : ∃ V, V = (w2.alloc (.cells #[.int .u32 (as_ : Nat)] 22)).alloc (.cells #[.int .i64 K, .slice (some ⟨b1, 0, none⟩) 1 1] 67) := ⟨_, rfl⟩
              have HV1 : Hid (CellsAt V b1 #[.int .u32 (as_ : Nat)] 22) := by rw [hV, hb1]; exact new1 _ _ _ _
              have HV2 : Hid (CellsAt V (b1 + 1) (Sg.cs ⟨K, some ⟨b1, 0, none⟩, [as_], 1⟩).toArray 67) := by
                show CellsAt V (b1 + 1) #[.int .i64 K, .slice (some ⟨b1, 0, none⟩) 1 1] 67
                rw [hV, hb1]
                exact new2b _ _ _ _
              have HBV : Hid (Below w2.heap.size w2 V) := by rw [hV]; exact below2 _ _ _
              have HVZ : Hid (w.heap.size ≤ V.heap.size) := Nat.le_trans HZ.out HBV.out.size
              have HOV : Hid (SegsO V w.heap.size (.slice (some ⟨g, 0, none⟩) (s :: r).length c1) (s :: r)) := HO2.out.keep (fun i _ hi => HBV.out.block i hi)
              have HBX : Hid (b1 = w2.heap.size) := hb1
              have HOB : Hid ((Value.slice (some ⟨g, 0, none⟩) (s :: r).length c1).ownBlock ≠ some (b1 + 1)) := fun e => by
                have h5 := (OwnM.lt HO2.out.own _ e).2
                rw [← HBX.out] at h5
                omega
              rw [hb1] at hV
              go_upto_region 7 with fail
              go_wp2_with fail
              rw [← hV, ← hb1]
              clear hV hb1
              refine (HI2.out w.heap.size (.slice (some ⟨g, 0, none⟩) (s :: r).length c1) (s :: r) ⟨K, some ⟨b1, 0, none⟩, [as_], 1⟩ (b1 + 1) V HOV.out.own HVZ.out HV2.out HOB.out (by omega)).mono ?_
              rintro e w3 ⟨A3, c3, rfl, ho3, hg3⟩
              have HO3 : Hid (SegsO w3 w.heap.size (.slice A3 ((s :: r).length + 1) c3) ((⟨K, some ⟨b1, 0, none⟩, [as_], 1⟩ : Sg) :: (s :: r))) := SegsO.cons HOV.out HV1.out (by rw [HBX.out]; exact HZ.out) ho3 hg3 HF.out HKR.out
              have HB3 : Hid (Below w.heap.size w w3) := OwnM.below_grown HOV.out.own hg3 (HB2.out.trans (HBV.out.mono HB2.out.size)) HVZ.out (Nat.le_refl _)
              clear ho3 hg3
              go_wp2_with fail
              exact HY.out _ A3 _ c3 _ _ HE.out rfl (by rw [List.map_cons, HC2.out, HK.out]; rfl) HO3.out HB3.out
end Go.Proofs.YtojiieghjhjoaaaGreat
