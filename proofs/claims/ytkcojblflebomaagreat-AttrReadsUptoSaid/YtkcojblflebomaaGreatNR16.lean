/-
  Several texts in one.
-/
import Derived.Test.YtkcojblflebomaaGreatNR13
import Derived.StillTailTactics
import Derived.Deep.DeepCutAuto
set_option linter.unusedVariables false
set_option linter.unusedSimpArgs false
namespace Go.Proofs.YtkcojblflebomaaGreat
open Go.RowKit Go.MapKept Go.Shelf
open Go.Lib hiding intOf

def wordsB (l : List Nat) : List UInt8 := l.flatMap fun n => beB n 4 4
def extsB (l : List Nat) : List UInt8 := l.flatMap fun n => beB n 8 8
def largesB (l : List Lg) : List UInt8 := l.flatMap fun x => beB x.g 4 4 ++ beB x.a 4 4 ++ beB x.b 4 4
def aggB (four : Bool) (n : Nat) : List UInt8 := if four = true then beB n 4 4 else if n ≤ 65535 then beB n 2 2 else beB 23456 2 2
def W1 (c : AtC) (four : Bool) : List Rw := optR true 64 1 (bts (beB c.origin.toNat 1 1)) ++ optR true 64 2 (bts (pathB four c.path)) ++ optR (c.next.size == 4) 64 3 c.next
def W2 (c : AtC) : List Rw := optR c.hasMed 128 4 (bts (beB c.med 4 4)) ++ optR c.hasPref 64 5 (bts (beB c.pref 4 4)) ++ optR c.atomic 64 6 (bts [])
def W3 (c : AtC) (four : Bool) : List Rw := optR (decide (0 < c.aggAs)) 192 7 (bts (aggB four c.aggAs ++ beB c.aggId 4 4)) ++ optR (decide (0 < c.comms.length)) 192 8 (bts (wordsB c.comms)) ++ optR c.hasOrig 128 9 (bts (beB c.orig 4 4))
def W4 (c : AtC) : List Rw := optR (decide (0 < c.clus.length)) 128 10 (bts (wordsB c.clus)) ++ optR (decide (0 < c.exts.length)) 192 16 (bts (extsB c.exts)) ++ optR (decide (0 < c.larges.length)) 192 32 (bts (largesB c.larges))
/-- the raw attributes of attributes -/
def writeF (c : AtC) (four : Bool) : List Rw := W1 c four ++ W2 c ++ W3 c four ++ W4 c
/-- what lays the lists -/
structure EncSpec (a : Atr) : Prop where
  m : ∀ W, AtrOk W a → Calls Tryz.prog 52 #[.slice a.mA a.comms.length a.mC] W fun e w' => e = .returned (.tuple #[.string (bts (wordsB a.comms)), .int .i64 0]) ∧ Below W.heap.size W w'
  x : ∀ W, AtrOk W a → Calls Tryz.prog 53 #[.slice a.xA a.exts.length a.xC] W fun e w' => e = .returned (.tuple #[.string (bts (extsB a.exts)), .int .i64 0]) ∧ Below W.heap.size W w'
  l : ∀ W, AtrOk W a → Calls Tryz.prog 54 #[.slice a.lA a.larges.length a.lC] W fun e w' => e = .returned (.tuple #[.string (bts (largesB a.larges)), .int .i64 0]) ∧ Below W.heap.size W w'
theorem atOk_path {c : AtC} (h : atOk c = true) : pathOk c.path = true ∧ 0 ≤ c.origin ∧ c.origin ≤ 2 ∧ c.clus.length ≤ 32 := by
  unfold atOk listsOk at h
  simp only [Bool.and_eq_true, decide_eq_true_eq] at h
  exact ⟨h.1.1.1.2, h.1.1.1.1.1, h.1.1.1.1.2, h.2.1.1.1⟩
theorem optR_le (is : Bool) (f t : UInt8) (v : ByteArray) : (optR is f t v).length ≤ 1 := by
  cases is
  · exact Nat.zero_le _
  · exact Nat.le_refl _
set_option maxRecDepth 100000 in
set_option maxHeartbeats 32000000 in
theorem write_ok (a : Atr) (four : Bool) (w : World) (h : AtrOk w a) (hok : atOk a.c = true) (henc : EncSpec a) :
    Calls Tryz.prog 25 #[a.v, .bool four] w fun e w' => (∃ v, e = .returned (.tuple #[v, .int .i64 0]) ∧ OwnL w' w.heap.size 32 3 Rw.cs v (writeF a.c four)) ∧ Below w.heap.size w w' := by
  have HOK := Lib.hid h
  have HES := Lib.hid henc
  have HCK : Hid (∀ W, AtrOk W a → Calls Tryz.prog 26 #[a.v] W fun e w' => e = .returned (.int .i64 0) ∧ Below W.heap.size W w') := fun W hW => by
    have := check_any a W hW
    rw [hok] at this
    exact this
  obtain ⟨hp, ho0, ho2, hcl⟩ := atOk_path hok
  replace hp : pathOk (a.segs.map Sg.c) = true := hp
  replace ho0 : 0 ≤ a.origin := ho0
  replace ho2 : a.origin ≤ 2 := ho2
  replace hcl : a.clus.length ≤ 32 := hcl
  have HEN : Hid (∀ W, AtrOk W a → Calls Tryz.prog 50 #[.slice a.pA a.segs.length a.pC, .bool four] W fun e w' => e = .returned (.tuple #[.string (bts (pathB four (a.segs.map Sg.c))), .int .i64 0]) ∧ Below W.heap.size W w') := fun W hW => encode_any _ _ _ _ _ hW.path hp
  obtain ⟨on, hon⟩ := Int.eq_ofNat_of_zero_le ho0
  have hon2 : on ≤ 2 := by omega
  have HNUM := Lib.hid num_any
  have HPUT := Lib.hid wput_any
  have hnx := h.next
  have hm0 : a.comms.length ≤ 9223372036854775807 := Nat.le_trans h.mlen h.mcap
  have hx0 : a.exts.length ≤ 9223372036854775807 := Nat.le_trans h.xlen h.xcap
  have hl0 : a.larges.length ≤ 9223372036854775807 := Nat.le_trans h.llen h.lcap
  have hk0 : a.clus.length ≤ 9223372036854775807 := by omega
  have hkc : a.clus.length ≤ a.kC := h.klen
  have hkm : a.kC ≤ 9223372036854775807 := h.kcap
  obtain ⟨n1, n2, n3, n4, n5⟩ := h.nfit
  obtain ⟨q3, hq3⟩ : ∃ q, q = (a.next.size == 4) := ⟨_, rfl⟩
  have z3 : ((a.next.size : Int) == 4) = q3 := by rw [hq3, Bool.eq_iff_iff]; simp; omega
  obtain ⟨q7, hq7⟩ : ∃ q, q = decide (0 < a.aggAs) := ⟨_, rfl⟩
  have z7 : decide (0 < (a.aggAs : Int)) = q7 := by rw [hq7]; exact decide_eq_decide.2 (by omega)
  have z7n : decide (0 < a.aggAs) = q7 := hq7.symm
  obtain ⟨q8, hq8⟩ : ∃ q, q = decide (0 < a.comms.length) := ⟨_, rfl⟩
  have z8 : decide (0 < a.comms.length) = q8 := hq8.symm
  obtain ⟨q10, hq10⟩ : ∃ q, q = decide (0 < a.clus.length) := ⟨_, rfl⟩
  have z10 : decide (0 < a.clus.length) = q10 := hq10.symm
  obtain ⟨q16, hq16⟩ : ∃ q, q = decide (0 < a.exts.length) := ⟨_, rfl⟩
  have z16 : decide (0 < a.exts.length) = q16 := hq16.symm
  obtain ⟨q32, hq32⟩ : ∃ q, q = decide (0 < a.larges.length) := ⟨_, rfl⟩
  have z32 : decide (0 < a.larges.length) = q32 := hq32.symm
  have HWF : Hid (writeF a.c four = (optR true 64 1 (bts (beB on 1 1)) ++ optR true 64 2 (bts (pathB four (a.segs.map Sg.c))) ++ optR q3 64 3 a.next) ++ (optR a.hasMed 128 4 (bts (beB a.med 4 4)) ++ optR a.hasPref 64 5 (bts (beB a.pref 4 4)) ++ optR a.atomic 64 6 (bts [])) ++ (optR q7 192 7 (bts (aggB four a.aggAs ++ beB a.aggId 4 4)) ++ optR q8 192 8 (bts (wordsB a.comms)) ++ optR a.hasOrig 128 9 (bts (beB a.orig 4 4))) ++ (optR q10 128 10 (bts (wordsB a.clus)) ++ optR q16 192 16 (bts (extsB a.exts)) ++ optR q32 192 32 (bts (largesB a.larges)))) := by
    show _ = _
    rw [hq3, hq7, hq8, hq10, hq16, hq32, ← Int.toNat_natCast on]
    show _ = _
    rw [show ((on : Nat) : Int) = a.origin from hon.symm]
    rfl
  have HB : Hid (Below w.heap.size w (w.alloc (.cells a.ar 40))) := (Below.refl _ _).alloc (Nat.le_refl _) _
  have HA : Hid (CellsAt (w.alloc (.cells a.ar 40)) w.heap.size a.ar 40) := CellsAt.new _ _ _
  clear h hok henc hp ho0 ho2 hq3 hq7 hq8 hq10 hq16 hq32
  have HON := Lib.hid hon
  generalize pathB four (a.segs.map Sg.c) = P at HEN HWF
  obtain ⟨AG, hAG⟩ : ∃ x, x = aggB four a.aggAs := ⟨_, rfl⟩
  have hAGl : AG.length ≤ 4 := by rw [hAG]; unfold aggB; split; (rw [beB_len]; exact Nat.le_refl _); split; (rw [beB_len]; omega); (rw [beB_len]; omega)
  rw [← hAG] at HWF
  have HAG := Lib.hid hAG
  clear hon hAG
  rw [show a.v = .agg a.ar from rfl]
  go_enter Tryz.func25, Tryz.ntmps25
  go_upto_region 1 with fail
  generalize w.alloc (.cells a.ar 40) = W0 at HB HA ⊢
  go_wp2_with (with_reducible show wpList _ _ _ (_ :: _) _ _; refine wpList_load_attrs rfl (.tmp 2) rfl w.heap.size rfl a HA.out ?_)
  refine (HCK.out _ (HOK.out.below HB.out (Nat.le_refl _))).mono ?_
  rintro e V0 ⟨rfl, hb⟩
  have HA2 : Hid (CellsAt V0 w.heap.size a.ar 40) := HA.out.below hb HA.out.lt
  have HB2 : Hid (Below w.heap.size w V0) := HB.out.trans (hb.mono HB.out.size)
  clear hb HA HB
  have HA := HA2
  have HB := HB2
  clear HA2 HB2
  have hsb := HB.out.size
  have hab := HA.out.lt
  obtain ⟨B, hB⟩ : ∃ B, B = V0.heap.size := ⟨_, rfl⟩
  have HAx : Hid (CellsAt (V0.alloc (.cells #[.slice none 0 0] 22)) w.heap.size a.ar 40) := HA.out.alloc _
  have HBx : Hid (Below w.heap.size w (V0.alloc (.cells #[.slice none 0 0] 22))) := HB.out.alloc hsb _
  have HO : Hid (OutV (V0.alloc (.cells #[.slice none 0 0] 22)) B []) := by
    rw [hB]
    exact ⟨_, CellsAt.new _ _ _, OwnL.nil _ _ _ _ _⟩
  have HWB : Hid (w.heap.size < B) := by show _ < _; rw [hB]; exact hab
  go_upto_region 4 with fail
  rw [← hB]
  clear hB HA HB hab hsb
  generalize V0.alloc (.cells #[.slice none 0 0] 22) = V at HAx HBx HO ⊢
  have HA := HAx
  have HB := HBx
  clear HAx HBx
  obtain ⟨c0, c1, c2, c3, c4, c5, c6, c7, c8, c9, c10, c11, c12, c13, c14, c15⟩ := atr_cells HA.out
  rw [HON.out] at c0
  go_wp2_with fail
  refine (HEN.out _ (HOK.out.below HB.out (Nat.le_refl _))).mono ?_
  rintro e V1 ⟨rfl, hb⟩
  have HA2 : Hid (CellsAt V1 w.heap.size a.ar 40) := HA.out.below hb HA.out.lt
  have HB2 : Hid (Below w.heap.size w V1) := HB.out.trans (hb.mono HB.out.size)
  have HO2 : Hid (OutV V1 B []) := HO.out.below hb
  clear hb HA HB HO c0 c1 c2 c3 c4 c5 c6 c7 c8 c9 c10 c11 c12 c13 c14 c15
  have HA := HA2
  have HB := HB2
  have HO := HO2
  clear HA2 HB2 HO2
  obtain ⟨c0, c1, c2, c3, c4, c5, c6, c7, c8, c9, c10, c11, c12, c13, c14, c15⟩ := atr_cells HA.out
  rw [HON.out] at c0
  go_wp2_with fail
  refine (HNUM.out a.aggAs 4 _ (by decide) (by decide) (Nat.lt_of_lt_of_le n3 (by decide)) (by omega)).mono ?_
  rintro e V2 ⟨rfl, hb⟩
  have HA2 : Hid (CellsAt V2 w.heap.size a.ar 40) := HA.out.below hb HA.out.lt
  have HB2 : Hid (Below w.heap.size w V2) := HB.out.trans (hb.mono HB.out.size)
  have HO2 : Hid (OutV V2 B []) := HO.out.below hb
  clear hb HA HB HO c0 c1 c2 c3 c4 c5 c6 c7 c8 c9 c10 c11 c12 c13 c14 c15
  have HA := HA2
  have HB := HB2
  have HO := HO2
  clear HA2 HB2 HO2
  obtain ⟨c0, c1, c2, c3, c4, c5, c6, c7, c8, c9, c10, c11, c12, c13, c14, c15⟩ := atr_cells HA.out
  rw [HON.out] at c0
  go_upto_if 36 with fail
  obtain ⟨VX, hVX⟩ : ∃ V, V = V2 := ⟨_, rfl⟩
  clear hVX
  go_cut [10] (fun s wx => s = .string (bts AG) ∧ Below V2.heap.size V2 wx)
  case first =>
    cases four with
    | true =>
      have HE : Hid (AG = beB a.aggAs 4 4) := HAG.out
      go_wp2_with fail
      go_meet
      exact ⟨by rw [HE.out], Below.refl _ _⟩
    | false =>
      by_cases h5 : a.aggAs ≤ 65535
      · have HE : Hid (AG = beB a.aggAs 2 2) := by show _ = _; rw [HAG.out]; unfold aggB; rw [if_neg (by simp), if_pos h5]
        have h5' : (a.aggAs : Int) ≤ 65535 := by omega
        have h5'' : a.aggAs < 2 ^ (8 * 2) := Nat.lt_of_le_of_lt h5 (by decide)
        clear h5
        go_wp2_with fail
        refine (HNUM.out 23456 2 _ (by decide) (by decide) (by decide) (by decide)).mono ?_
        rintro e U1 ⟨rfl, hb⟩
        have HU1 := Lib.hid hb
        have HA2 : Hid (CellsAt U1 w.heap.size a.ar 40) := HA.out.below hb HA.out.lt
        clear hb c0 c1 c2 c3 c4 c5 c6 c7 c8 c9 c10 c11 c12 c13 c14 c15
        have c8 := (atr_cells HA2.out).2.2.2.2.2.2.2.2.1
        go_wp2_with fail
        refine (HNUM.out a.aggAs 2 _ (by decide) (by decide) h5'' (by omega)).mono ?_
        rintro e U2 ⟨rfl, hb⟩
        have HU2 : Hid (Below V2.heap.size V2 U2) := HU1.out.trans (hb.mono HU1.out.size)
        clear hb c8
        go_wp2_with fail
        go_meet
        exact ⟨by rw [HE.out], HU2.out⟩
      · have HE : Hid (AG = beB 23456 2 2) := by show _ = _; rw [HAG.out]; unfold aggB; rw [if_neg (by simp), if_neg h5]
        have h5' : ¬ (a.aggAs : Int) ≤ 65535 := by omega
        clear h5
        go_wp2_with fail
        refine (HNUM.out 23456 2 _ (by decide) (by decide) (by decide) (by decide)).mono ?_
        rintro e U1 ⟨rfl, hb⟩
        have HU1 := Lib.hid hb
        have HA2 : Hid (CellsAt U1 w.heap.size a.ar 40) := HA.out.below hb HA.out.lt
        clear hb c0 c1 c2 c3 c4 c5 c6 c7 c8 c9 c10 c11 c12 c13 c14 c15
        have c8 := (atr_cells HA2.out).2.2.2.2.2.2.2.2.1
        go_wp2_with fail
        go_meet
        exact ⟨by rw [HE.out], HU1.out⟩
  case rest =>
  obtain ⟨rfl, hb⟩ := hcut
  have HA2 : Hid (CellsAt wc w.heap.size a.ar 40) := HA.out.below hb HA.out.lt
  have HB2 : Hid (Below w.heap.size w wc) := HB.out.trans (hb.mono HB.out.size)
  have HO2 : Hid (OutV wc B []) := HO.out.below hb
  clear hb HA HB HO c0 c1 c2 c3 c4 c5 c6 c7 c8 c9 c10 c11 c12 c13 c14 c15
  have HA := HA2
  have HB := HB2
  have HO := HO2
  clear HA2 HB2 HO2
  obtain ⟨c0, c1, c2, c3, c4, c5, c6, c7, c8, c9, c10, c11, c12, c13, c14, c15⟩ := atr_cells HA.out
  rw [HON.out] at c0
  go_wp2_with fail
  refine (HES.out.m _ (HOK.out.below HB.out (Nat.le_refl _))).mono ?_
  rintro e V4 ⟨rfl, hb⟩
  have HA2 : Hid (CellsAt V4 w.heap.size a.ar 40) := HA.out.below hb HA.out.lt
  have HB2 : Hid (Below w.heap.size w V4) := HB.out.trans (hb.mono HB.out.size)
  have HO2 : Hid (OutV V4 B []) := HO.out.below hb
  clear hb HA HB HO c0 c1 c2 c3 c4 c5 c6 c7 c8 c9 c10 c11 c12 c13 c14 c15
  have HA := HA2
  have HB := HB2
  have HO := HO2
  clear HA2 HB2 HO2
  obtain ⟨c0, c1, c2, c3, c4, c5, c6, c7, c8, c9, c10, c11, c12, c13, c14, c15⟩ := atr_cells HA.out
  rw [HON.out] at c0
  go_wp2_with fail
  refine (HES.out.x _ (HOK.out.below HB.out (Nat.le_refl _))).mono ?_
  rintro e V5 ⟨rfl, hb⟩
  have HA2 : Hid (CellsAt V5 w.heap.size a.ar 40) := HA.out.below hb HA.out.lt
  have HB2 : Hid (Below w.heap.size w V5) := HB.out.trans (hb.mono HB.out.size)
  have HO2 : Hid (OutV V5 B []) := HO.out.below hb
  clear hb HA HB HO c0 c1 c2 c3 c4 c5 c6 c7 c8 c9 c10 c11 c12 c13 c14 c15
  have HA := HA2
  have HB := HB2
  have HO := HO2
  clear HA2 HB2 HO2
  obtain ⟨c0, c1, c2, c3, c4, c5, c6, c7, c8, c9, c10, c11, c12, c13, c14, c15⟩ := atr_cells HA.out
  rw [HON.out] at c0
  go_wp2_with fail
  refine (HES.out.l _ (HOK.out.below HB.out (Nat.le_refl _))).mono ?_
  rintro e V6 ⟨rfl, hb⟩
  have HA2 : Hid (CellsAt V6 w.heap.size a.ar 40) := HA.out.below hb HA.out.lt
  have HB2 : Hid (Below w.heap.size w V6) := HB.out.trans (hb.mono HB.out.size)
  have HO2 : Hid (OutV V6 B []) := HO.out.below hb
  clear hb HA HB HO c0 c1 c2 c3 c4 c5 c6 c7 c8 c9 c10 c11 c12 c13 c14 c15
  have HA := HA2
  have HB := HB2
  have HO := HO2
  clear HA2 HB2 HO2
  obtain ⟨c0, c1, c2, c3, c4, c5, c6, c7, c8, c9, c10, c11, c12, c13, c14, c15⟩ := atr_cells HA.out
  rw [HON.out] at c0
  generalize wordsB a.comms = PM at HWF ⊢
  generalize extsB a.exts = PX at HWF ⊢
  generalize largesB a.larges = PL at HWF ⊢
  go_wp2_with fail
  go_loopw [17, 66] (fun s i wr => ∃ k : Nat, k ≤ a.clus.length ∧ i = .int .i64 k ∧ s = .string (bts (wordsB (a.clus.take k))) ∧ Hid (Below V6.heap.size V6 wr)) (fun _ i _ => a.clus.length + 1 - (intOf i).toNat)
  case atStart => exact ⟨0, by omega, rfl, rfl, Below.refl _ _⟩
  case round =>
  clear c0 c1 c2 c3 c4 c5 c6 c7 c8 c9 c10 c11 c12 c13 c14 c15
  obtain ⟨k, hk, rfl, rfl, HL⟩ := hrel
  by_cases hlt : k < a.clus.length
  case pos =>
    obtain ⟨x, hx⟩ : ∃ x, a.clus[k]? = some x := ⟨a.clus[k], List.getElem?_eq_getElem hlt⟩
    have HOW := HOK.out.below (HB.out.trans (HL.out.mono HB.out.size)) (Nat.le_refl _)
    obtain ⟨b1, o1, hA1, hb1, hc1⟩ := num_at HOW.krd hx
    rw [hA1]
    have hx32 : x < 4294967296 := HOW.kfit x (List.mem_of_getElem? hx)
    have HT : Hid (wordsB (a.clus.take (k + 1)) = wordsB (a.clus.take k) ++ beB x 4 4) := Lib.hid (fm_take (fun n => beB n 4 4) hx)
    have hwl : (wordsB (a.clus.take k)).length ≤ 128 := by
      have e : ∀ l : List Nat, (wordsB l).length = 4 * l.length := by
        intro l
        induction l with
        | nil => rfl
        | cons a r ih =>
          unfold wordsB at ih ⊢
          rw [List.flatMap_cons, List.length_append, ih, beB_len, List.length_cons]
          omega
      rw [e]
      have := List.length_take_le k a.clus
      omega
    generalize wordsB (a.clus.take k) = acc at HT hwl
    have hsa : (bts acc).size ≤ 128 := by rw [bts_size]; exact hwl
    have hsb : (bts (beB x 4 4)).size ≤ 4 := by rw [bts_size, beB_len]; exact Nat.le_refl _
    clear hx hA1 HOW
    go_wp2_with fail
    refine (HNUM.out x 4 _ (by decide) (by decide) (Nat.lt_of_lt_of_le hx32 (by decide)) (by omega)).mono ?_
    rintro e U1 ⟨rfl, hb⟩
    have HU1 : Hid (Below V6.heap.size V6 U1) := HL.out.trans (hb.mono HL.out.size)
    have HAPP := Lib.hid (bts_app acc (beB x 4 4))
    generalize bts (beB x 4 4) = y at HAPP hsb
    clear hb hc1
    go_wp2_with fail
    exact ⟨⟨k + 1, by omega, by go_num, by rw [HT.out, ← HAPP.out], HU1.out⟩, by simp [intOf]; omega⟩
  obtain rfl : k = a.clus.length := by omega
  rw [List.take_length]
  generalize wordsB a.clus = PK at HWF ⊢
  have hb := HL.out
  obtain ⟨c0, c1, c2, c3, c4, c5, c6, c7, c8, c9, c10, c11, c12, c13, c14, c15⟩ := atr_cells HA.out
  have HA2 : Hid (CellsAt wr w.heap.size a.ar 40) := HA.out.below hb HA.out.lt
  have HB2 : Hid (Below w.heap.size w wr) := HB.out.trans (hb.mono HB.out.size)
  have HO2 : Hid (OutV wr B []) := HO.out.below hb
  clear hb HA HB HO c0 c1 c2 c3 c4 c5 c6 c7 c8 c9 c10 c11 c12 c13 c14 c15
  have HA := HA2
  have HB := HB2
  have HO := HO2
  clear HA2 HB2 HO2
  obtain ⟨c0, c1, c2, c3, c4, c5, c6, c7, c8, c9, c10, c11, c12, c13, c14, c15⟩ := atr_cells HA.out
  rw [HON.out] at c0
  clear HL hlt
  go_wp2_with fail
  refine (HNUM.out on 1 _ (by decide) (by decide) (Nat.lt_of_le_of_lt hon2 (by decide)) (by omega)).mono ?_
  rintro e V41 ⟨rfl, hb⟩
  have HA2 : Hid (CellsAt V41 w.heap.size a.ar 40) := HA.out.below hb HA.out.lt
  have HB2 : Hid (Below w.heap.size w V41) := HB.out.trans (hb.mono HB.out.size)
  have HO2 : Hid (OutV V41 B []) := HO.out.below hb
  clear hb HA HB HO c0 c1 c2 c3 c4 c5 c6 c7 c8 c9 c10 c11 c12 c13 c14 c15
  have HA := HA2
  have HB := HB2
  have HO := HO2
  clear HA2 HB2 HO2
  obtain ⟨c0, c1, c2, c3, c4, c5, c6, c7, c8, c9, c10, c11, c12, c13, c14, c15⟩ := atr_cells HA.out
  rw [HON.out] at c0
  go_wp2_with fail
  refine (HPUT.out B [] 64 1 true (bts (beB on 1 1)) _ HO.out (by decide)).mono ?_
  rintro e V42 ⟨rfl, ho, hb⟩
  obtain ⟨L1, hL1⟩ : ∃ L, L = [] ++ optR true 64 1 (bts (beB on 1 1)) := ⟨_, rfl⟩
  rw [← hL1] at ho
  have hlL1 : L1.length ≤ 1 := by rw [hL1, List.length_append]; have := optR_le true 64 1 (bts (beB on 1 1)); simp only [List.length_nil] ; omega
  have HL1 := Lib.hid hL1
  clear hL1
  have HA2 : Hid (CellsAt V42 w.heap.size a.ar 40) := HA.out.below hb HWB.out
  have HB2 : Hid (Below w.heap.size w V42) := HB.out.trans (hb.mono (Nat.le_of_lt HWB.out))
  have HO2 : Hid (OutV V42 B (L1)) := ho
  clear hb ho HA HB HO c0 c1 c2 c3 c4 c5 c6 c7 c8 c9 c10 c11 c12 c13 c14 c15
  have HA := HA2
  have HB := HB2
  have HO := HO2
  clear HA2 HB2 HO2
  obtain ⟨c0, c1, c2, c3, c4, c5, c6, c7, c8, c9, c10, c11, c12, c13, c14, c15⟩ := atr_cells HA.out
  rw [HON.out] at c0
  go_wp2_with fail
  refine (HPUT.out B L1 64 2 true (bts P) _ HO.out (by omega)).mono ?_
  rintro e V43 ⟨rfl, ho, hb⟩
  obtain ⟨L2, hL2⟩ : ∃ L, L = L1 ++ optR true 64 2 (bts P) := ⟨_, rfl⟩
  rw [← hL2] at ho
  have hlL2 : L2.length ≤ 2 := by rw [hL2, List.length_append]; have := optR_le true 64 2 (bts P); omega
  have HL2 := Lib.hid hL2
  clear hL2
  have HA2 : Hid (CellsAt V43 w.heap.size a.ar 40) := HA.out.below hb HWB.out
  have HB2 : Hid (Below w.heap.size w V43) := HB.out.trans (hb.mono (Nat.le_of_lt HWB.out))
  have HO2 : Hid (OutV V43 B (L2)) := ho
  clear hb ho HA HB HO c0 c1 c2 c3 c4 c5 c6 c7 c8 c9 c10 c11 c12 c13 c14 c15
  have HA := HA2
  have HB := HB2
  have HO := HO2
  clear HA2 HB2 HO2
  obtain ⟨c0, c1, c2, c3, c4, c5, c6, c7, c8, c9, c10, c11, c12, c13, c14, c15⟩ := atr_cells HA.out
  rw [HON.out] at c0
  go_wp2_with fail
  refine (HPUT.out B L2 64 3 q3 a.next _ HO.out (by omega)).mono ?_
  rintro e V44 ⟨rfl, ho, hb⟩
  obtain ⟨L3, hL3⟩ : ∃ L, L = L2 ++ optR q3 64 3 a.next := ⟨_, rfl⟩
  rw [← hL3] at ho
  have hlL3 : L3.length ≤ 3 := by rw [hL3, List.length_append]; have := optR_le q3 64 3 a.next; omega
  have HL3 := Lib.hid hL3
  clear hL3
  have HA2 : Hid (CellsAt V44 w.heap.size a.ar 40) := HA.out.below hb HWB.out
  have HB2 : Hid (Below w.heap.size w V44) := HB.out.trans (hb.mono (Nat.le_of_lt HWB.out))
  have HO2 : Hid (OutV V44 B (L3)) := ho
  clear hb ho HA HB HO c0 c1 c2 c3 c4 c5 c6 c7 c8 c9 c10 c11 c12 c13 c14 c15
  have HA := HA2
  have HB := HB2
  have HO := HO2
  clear HA2 HB2 HO2
  obtain ⟨c0, c1, c2, c3, c4, c5, c6, c7, c8, c9, c10, c11, c12, c13, c14, c15⟩ := atr_cells HA.out
  rw [HON.out] at c0
  go_wp2_with fail
  have hBV : Hid (B ≤ V44.heap.size) := by
    obtain ⟨_, hq, _⟩ := HO.out.c
    exact Nat.le_of_lt hq.lt
  have hwr : IntKind.u64.wrap ((a.med : Nat) : Int) = ((a.med : Nat) : Int) := IntWalk.u64_in _ (by omega)
  refine wp_region_held_drew (S := fun w' => Below B V44 w') (by kernel_rfl) ((below_drewN (Below.refl _ _) 1)) (fun hHeld => ?_)
  refine wpAnyH_take (i := 0) (oi := { dst := some 93, op := Op.move (Operand.tmp 7), type := 90, pos := "attr.go:92", after := #[], guard := none }) (v := ?_) rfl (by kernel_rfl) (by kernel_rfl) (by kernel_rfl) (fun _ _ _ h => h) (Or.inl ⟨by rfl, ?_⟩) hHeld ?_
  rotate_left
  · intro w hSw
    clear hSw
    go_simp
    try with_reducible rfl
  try simp only [Act.put, List.setIfInBounds_toArray, List.set_cons_zero, List.set_cons_succ]
  refine wpAnyH_take (i := 1) (oi := { dst := some 94, op := Op.fieldAddr 40 (Operand.tmp 2) 3, type := 0, pos := "attr.go:92", after := #[], guard := none }) (v := ?_) rfl (by kernel_rfl) (by kernel_rfl) (by kernel_rfl) (fun _ _ _ h => h) (Or.inl ⟨by rfl, ?_⟩) hHeld ?_
  rotate_left
  · intro w hSw
    clear hSw
    go_simp
    try with_reducible rfl
  try simp only [Act.put, List.setIfInBounds_toArray, List.set_cons_zero, List.set_cons_succ]
  refine wpAnyH_take (i := 2) (oi := { dst := some 95, op := Op.load 4 (Operand.tmp 94), type := 4, pos := "attr.go:92", after := #[{ on := 1, ground := Ground.data }], guard := none }) (v := ?_) rfl (by kernel_rfl) (by kernel_rfl) (by kernel_rfl) (fun _ _ _ h => h) (Or.inl ⟨by rfl, ?_⟩) hHeld ?_
  rotate_left
  · intro w hSw
    obtain ⟨c0, c1, c2, c3, c4, c5, c6, c7, c8, c9, c10, c11, c12, c13, c14, c15⟩ := atr_cells (HA.out.below hSw HWB.out)
    go_simp
    try with_reducible rfl
  try simp only [Act.put, List.setIfInBounds_toArray, List.set_cons_zero, List.set_cons_succ]
  refine wpAnyH_take (i := 3) (oi := { dst := some 96, op := Op.fieldAddr 40 (Operand.tmp 2) 4, type := 0, pos := "attr.go:92", after := #[], guard := none }) (v := ?_) rfl (by kernel_rfl) (by kernel_rfl) (by kernel_rfl) (fun _ _ _ h => h) (Or.inl ⟨by rfl, ?_⟩) hHeld ?_
  rotate_left
  · intro w hSw
    clear hSw
    go_simp
    try with_reducible rfl
  try simp only [Act.put, List.setIfInBounds_toArray, List.set_cons_zero, List.set_cons_succ]
  refine wpAnyH_take (i := 4) (oi := { dst := some 97, op := Op.load 35 (Operand.tmp 96), type := 35, pos := "attr.go:92", after := #[{ on := 3, ground := Ground.data }], guard := none }) (v := ?_) rfl (by kernel_rfl) (by kernel_rfl) (by kernel_rfl) (fun _ _ _ h => h) (Or.inl ⟨by rfl, ?_⟩) hHeld ?_
  rotate_left
  · intro w hSw
    obtain ⟨c0, c1, c2, c3, c4, c5, c6, c7, c8, c9, c10, c11, c12, c13, c14, c15⟩ := atr_cells (HA.out.below hSw HWB.out)
    go_simp
    try with_reducible rfl
  try simp only [Act.put, List.setIfInBounds_toArray, List.set_cons_zero, List.set_cons_succ]
  refine wpAnyH_take (i := 5) (oi := { dst := some 98, op := Op.convert 35 57 (Operand.tmp 97), type := 57, pos := "attr.go:92", after := #[{ on := 4, ground := Ground.data }], guard := none }) (v := ?_) rfl (by kernel_rfl) (by kernel_rfl) (by kernel_rfl) (fun _ _ _ h => h) (Or.inl ⟨by rfl, ?_⟩) hHeld ?_
  rotate_left
  · intro w hSw
    clear hSw
    go_simp
    try with_reducible rfl
  try simp only [Act.put, List.setIfInBounds_toArray, List.set_cons_zero, List.set_cons_succ]
  refine wpAnyH_ready (rs := [6]) (by kernel_rfl) (by simp) ?_
  refine AllReadyH.cons (o := { dst := some 99, op := Op.call { callee := Callee.value (Operand.func 51), args := #[Operand.tmp 98, Operand.const (Value.int IntKind.i64 4)], argTypes := #[57, 3] }, type := 9, pos := "attr.go:92", after := #[{ on := 5, ground := Ground.data }], guard := none }) rfl (fun K hK => ?_) AllReadyH.nil
  go_simp
  refine (HNUM.out a.med 4 _ (by decide) (by decide) (Nat.lt_of_lt_of_le n1 (by decide)) (by omega)).mono ?_
  rintro e V45 ⟨rfl, hbn⟩
  have hbV : Below V44.heap.size V44 V45 := (below_drewN (Below.refl V44.heap.size V44) 1).trans hbn
  have HOU : Hid (OutV V45 B L3) := HO.out.below hbV
  have HBU : Hid (Below B V44 V45) := hbV.mono hBV.out
  clear hbn hbV
  go_wp2_with fail
  refine hK.out _ _ (HBU.out) (fun hHeld => ?_)
  clear hK K
  try simp only [Act.put, List.setIfInBounds_toArray, List.set_cons_zero, List.set_cons_succ]
  refine wpAnyH_ready (rs := [7]) (by kernel_rfl) (by simp) ?_
  refine AllReadyH.cons (o := { dst := some 100, op := Op.call { callee := Callee.value (Operand.tmp 93), args := #[Operand.const (Value.int IntKind.u8 128), Operand.const (Value.int IntKind.u8 4), Operand.tmp 95, Operand.tmp 99], argTypes := #[5, 5, 4, 9] }, type := 0, pos := "attr.go:92", after := #[{ on := 0, ground := Ground.data }, { on := 2, ground := Ground.data }, { on := 6, ground := Ground.data }, { on := 6, ground := Ground.chain }], guard := none }) rfl (fun K hK => ?_) AllReadyH.nil
  go_simp
  refine (HPUT.out B L3 128 4 a.hasMed (bts (beB a.med 4 4)) _ HOU.out (by omega)).mono ?_
  rintro e V46 ⟨rfl, ho, hb2⟩
  have HO3 := Lib.hid ho
  have HBW : Hid (Below B V44 V46) := HBU.out.trans hb2
  clear ho hb2
  go_wp2_with fail
  refine hK.out _ _ (HBW.out) (fun hHeld => ?_)
  clear hK K
  try simp only [Act.put, List.setIfInBounds_toArray, List.set_cons_zero, List.set_cons_succ]
  refine wpAnyH_done (by kernel_rfl) ?_ _
  clear hHeld hwr
  have ho := HO3.out
  have hb := HBW.out
  clear HO3 HBW HOU HBU hBV
  obtain ⟨L4, hL4⟩ : ∃ L, L = L3 ++ optR a.hasMed 128 4 (bts (beB a.med 4 4)) := ⟨_, rfl⟩
  rw [← hL4] at ho
  have hlL4 : L4.length ≤ 4 := by rw [hL4, List.length_append]; have := optR_le a.hasMed 128 4 (bts (beB a.med 4 4)); omega
  have HL4 := Lib.hid hL4
  clear hL4
  have HA2 : Hid (CellsAt V46 w.heap.size a.ar 40) := HA.out.below hb HWB.out
  have HB2 : Hid (Below w.heap.size w V46) := HB.out.trans (hb.mono (Nat.le_of_lt HWB.out))
  have HO2 : Hid (OutV V46 B (L4)) := ho
  clear hb ho HA HB HO c0 c1 c2 c3 c4 c5 c6 c7 c8 c9 c10 c11 c12 c13 c14 c15
  have HA := HA2
  have HB := HB2
  have HO := HO2
  clear HA2 HB2 HO2
  obtain ⟨c0, c1, c2, c3, c4, c5, c6, c7, c8, c9, c10, c11, c12, c13, c14, c15⟩ := atr_cells HA.out
  rw [HON.out] at c0
  go_wp2_with fail
  have hBV : Hid (B ≤ V46.heap.size) := by
    obtain ⟨_, hq, _⟩ := HO.out.c
    exact Nat.le_of_lt hq.lt
  have hwr : IntKind.u64.wrap ((a.pref : Nat) : Int) = ((a.pref : Nat) : Int) := IntWalk.u64_in _ (by omega)
  refine wp_region_held_drew (S := fun w' => Below B V46 w') (by kernel_rfl) ((below_drewN (Below.refl _ _) 1)) (fun hHeld => ?_)
  refine wpAnyH_take (i := 0) (oi := { dst := some 101, op := Op.move (Operand.tmp 7), type := 90, pos := "attr.go:93", after := #[], guard := none }) (v := ?_) rfl (by kernel_rfl) (by kernel_rfl) (by kernel_rfl) (fun _ _ _ h => h) (Or.inl ⟨by rfl, ?_⟩) hHeld ?_
  rotate_left
  · intro w hSw
    clear hSw
    go_simp
    try with_reducible rfl
  try simp only [Act.put, List.setIfInBounds_toArray, List.set_cons_zero, List.set_cons_succ]
  refine wpAnyH_take (i := 1) (oi := { dst := some 102, op := Op.fieldAddr 40 (Operand.tmp 2) 5, type := 0, pos := "attr.go:93", after := #[], guard := none }) (v := ?_) rfl (by kernel_rfl) (by kernel_rfl) (by kernel_rfl) (fun _ _ _ h => h) (Or.inl ⟨by rfl, ?_⟩) hHeld ?_
  rotate_left
  · intro w hSw
    clear hSw
    go_simp
    try with_reducible rfl
  try simp only [Act.put, List.setIfInBounds_toArray, List.set_cons_zero, List.set_cons_succ]
  refine wpAnyH_take (i := 2) (oi := { dst := some 103, op := Op.load 4 (Operand.tmp 102), type := 4, pos := "attr.go:93", after := #[{ on := 1, ground := Ground.data }], guard := none }) (v := ?_) rfl (by kernel_rfl) (by kernel_rfl) (by kernel_rfl) (fun _ _ _ h => h) (Or.inl ⟨by rfl, ?_⟩) hHeld ?_
  rotate_left
  · intro w hSw
    obtain ⟨c0, c1, c2, c3, c4, c5, c6, c7, c8, c9, c10, c11, c12, c13, c14, c15⟩ := atr_cells (HA.out.below hSw HWB.out)
    go_simp
    try with_reducible rfl
  try simp only [Act.put, List.setIfInBounds_toArray, List.set_cons_zero, List.set_cons_succ]
  refine wpAnyH_take (i := 3) (oi := { dst := some 104, op := Op.fieldAddr 40 (Operand.tmp 2) 6, type := 0, pos := "attr.go:93", after := #[], guard := none }) (v := ?_) rfl (by kernel_rfl) (by kernel_rfl) (by kernel_rfl) (fun _ _ _ h => h) (Or.inl ⟨by rfl, ?_⟩) hHeld ?_
  rotate_left
  · intro w hSw
    clear hSw
    go_simp
    try with_reducible rfl
  try simp only [Act.put, List.setIfInBounds_toArray, List.set_cons_zero, List.set_cons_succ]
  refine wpAnyH_take (i := 4) (oi := { dst := some 105, op := Op.load 35 (Operand.tmp 104), type := 35, pos := "attr.go:93", after := #[{ on := 3, ground := Ground.data }], guard := none }) (v := ?_) rfl (by kernel_rfl) (by kernel_rfl) (by kernel_rfl) (fun _ _ _ h => h) (Or.inl ⟨by rfl, ?_⟩) hHeld ?_
  rotate_left
  · intro w hSw
    obtain ⟨c0, c1, c2, c3, c4, c5, c6, c7, c8, c9, c10, c11, c12, c13, c14, c15⟩ := atr_cells (HA.out.below hSw HWB.out)
    go_simp
    try with_reducible rfl
  try simp only [Act.put, List.setIfInBounds_toArray, List.set_cons_zero, List.set_cons_succ]
  refine wpAnyH_take (i := 5) (oi := { dst := some 106, op := Op.convert 35 57 (Operand.tmp 105), type := 57, pos := "attr.go:93", after := #[{ on := 4, ground := Ground.data }], guard := none }) (v := ?_) rfl (by kernel_rfl) (by kernel_rfl) (by kernel_rfl) (fun _ _ _ h => h) (Or.inl ⟨by rfl, ?_⟩) hHeld ?_
  rotate_left
  · intro w hSw
    clear hSw
    go_simp
    try with_reducible rfl
  try simp only [Act.put, List.setIfInBounds_toArray, List.set_cons_zero, List.set_cons_succ]
  refine wpAnyH_ready (rs := [6]) (by kernel_rfl) (by simp) ?_
  refine AllReadyH.cons (o := { dst := some 107, op := Op.call { callee := Callee.value (Operand.func 51), args := #[Operand.tmp 106, Operand.const (Value.int IntKind.i64 4)], argTypes := #[57, 3] }, type := 9, pos := "attr.go:93", after := #[{ on := 5, ground := Ground.data }], guard := none }) rfl (fun K hK => ?_) AllReadyH.nil
  go_simp
  refine (HNUM.out a.pref 4 _ (by decide) (by decide) (Nat.lt_of_lt_of_le n2 (by decide)) (by omega)).mono ?_
  rintro e V47 ⟨rfl, hbn⟩
  have hbV : Below V46.heap.size V46 V47 := (below_drewN (Below.refl V46.heap.size V46) 1).trans hbn
  have HOU : Hid (OutV V47 B L4) := HO.out.below hbV
  have HBU : Hid (Below B V46 V47) := hbV.mono hBV.out
  clear hbn hbV
  go_wp2_with fail
  refine hK.out _ _ (HBU.out) (fun hHeld => ?_)
  clear hK K
  try simp only [Act.put, List.setIfInBounds_toArray, List.set_cons_zero, List.set_cons_succ]
  refine wpAnyH_ready (rs := [7]) (by kernel_rfl) (by simp) ?_
  refine AllReadyH.cons (o := { dst := some 108, op := Op.call { callee := Callee.value (Operand.tmp 101), args := #[Operand.const (Value.int IntKind.u8 64), Operand.const (Value.int IntKind.u8 5), Operand.tmp 103, Operand.tmp 107], argTypes := #[5, 5, 4, 9] }, type := 0, pos := "attr.go:93", after := #[{ on := 0, ground := Ground.data }, { on := 2, ground := Ground.data }, { on := 6, ground := Ground.data }, { on := 6, ground := Ground.chain }], guard := none }) rfl (fun K hK => ?_) AllReadyH.nil
  go_simp
  refine (HPUT.out B L4 64 5 a.hasPref (bts (beB a.pref 4 4)) _ HOU.out (by omega)).mono ?_
  rintro e V48 ⟨rfl, ho, hb2⟩
  have HO3 := Lib.hid ho
  have HBW : Hid (Below B V46 V48) := HBU.out.trans hb2
  clear ho hb2
  go_wp2_with fail
  refine hK.out _ _ (HBW.out) (fun hHeld => ?_)
  clear hK K
  try simp only [Act.put, List.setIfInBounds_toArray, List.set_cons_zero, List.set_cons_succ]
  refine wpAnyH_done (by kernel_rfl) ?_ _
  clear hHeld hwr
  have ho := HO3.out
  have hb := HBW.out
  clear HO3 HBW HOU HBU hBV
  obtain ⟨L5, hL5⟩ : ∃ L, L = L4 ++ optR a.hasPref 64 5 (bts (beB a.pref 4 4)) := ⟨_, rfl⟩
  rw [← hL5] at ho
  have hlL5 : L5.length ≤ 5 := by rw [hL5, List.length_append]; have := optR_le a.hasPref 64 5 (bts (beB a.pref 4 4)); omega
  have HL5 := Lib.hid hL5
  clear hL5
  have HA2 : Hid (CellsAt V48 w.heap.size a.ar 40) := HA.out.below hb HWB.out
  have HB2 : Hid (Below w.heap.size w V48) := HB.out.trans (hb.mono (Nat.le_of_lt HWB.out))
  have HO2 : Hid (OutV V48 B (L5)) := ho
  clear hb ho HA HB HO c0 c1 c2 c3 c4 c5 c6 c7 c8 c9 c10 c11 c12 c13 c14 c15
  have HA := HA2
  have HB := HB2
  have HO := HO2
  clear HA2 HB2 HO2
  obtain ⟨c0, c1, c2, c3, c4, c5, c6, c7, c8, c9, c10, c11, c12, c13, c14, c15⟩ := atr_cells HA.out
  rw [HON.out] at c0
  go_wp2_with fail
  refine (HPUT.out B L5 64 6 a.atomic (bts []) _ HO.out (by omega)).mono ?_
  rintro e V49 ⟨rfl, ho, hb⟩
  obtain ⟨L6, hL6⟩ : ∃ L, L = L5 ++ optR a.atomic 64 6 (bts []) := ⟨_, rfl⟩
  rw [← hL6] at ho
  have hlL6 : L6.length ≤ 6 := by rw [hL6, List.length_append]; have := optR_le a.atomic 64 6 (bts []); omega
  have HL6 := Lib.hid hL6
  clear hL6
  have HA2 : Hid (CellsAt V49 w.heap.size a.ar 40) := HA.out.below hb HWB.out
  have HB2 : Hid (Below w.heap.size w V49) := HB.out.trans (hb.mono (Nat.le_of_lt HWB.out))
  have HO2 : Hid (OutV V49 B (L6)) := ho
  clear hb ho HA HB HO c0 c1 c2 c3 c4 c5 c6 c7 c8 c9 c10 c11 c12 c13 c14 c15
  have HA := HA2
  have HB := HB2
  have HO := HO2
  clear HA2 HB2 HO2
  obtain ⟨c0, c1, c2, c3, c4, c5, c6, c7, c8, c9, c10, c11, c12, c13, c14, c15⟩ := atr_cells HA.out
  rw [HON.out] at c0
  have hag1 : (bts AG).size ≤ 4 := by rw [bts_size]; exact hAGl
  have hag2 : (bts (beB a.aggId 4 4)).size ≤ 4 := by rw [bts_size, beB_len]; exact Nat.le_refl _
  have HAG2 := Lib.hid (bts_app AG (beB a.aggId 4 4))
  obtain ⟨sid, hsid⟩ : ∃ s, s = bts (beB a.aggId 4 4) := ⟨_, rfl⟩
  rw [← hsid] at HAG2 hag2
  have HSID := Lib.hid hsid
  clear hsid
  have hagsum : ¬ (9223372036854775807 < (bts AG).size + sid.size) := by omega
  go_wp2_with fail
  have hBV : Hid (B ≤ V49.heap.size) := by
    obtain ⟨_, hq, _⟩ := HO.out.c
    exact Nat.le_of_lt hq.lt
  have hwr : IntKind.u64.wrap ((a.aggId : Nat) : Int) = ((a.aggId : Nat) : Int) := IntWalk.u64_in _ (by omega)
  refine wp_region_held_drew (S := fun w' => Below B V49 w') (by kernel_rfl) ((below_drewN (Below.refl _ _) 1)) (fun hHeld => ?_)
  refine wpAnyH_take (i := 0) (oi := { dst := some 113, op := Op.move (Operand.tmp 7), type := 90, pos := "attr.go:95", after := #[], guard := none }) (v := ?_) rfl (by kernel_rfl) (by kernel_rfl) (by kernel_rfl) (fun _ _ _ h => h) (Or.inl ⟨by rfl, ?_⟩) hHeld ?_
  rotate_left
  · intro w hSw
    clear hSw
    go_simp
    try with_reducible rfl
  try simp only [Act.put, List.setIfInBounds_toArray, List.set_cons_zero, List.set_cons_succ]
  refine wpAnyH_take (i := 1) (oi := { dst := some 114, op := Op.fieldAddr 40 (Operand.tmp 2) 8, type := 0, pos := "attr.go:95", after := #[], guard := none }) (v := ?_) rfl (by kernel_rfl) (by kernel_rfl) (by kernel_rfl) (fun _ _ _ h => h) (Or.inl ⟨by rfl, ?_⟩) hHeld ?_
  rotate_left
  · intro w hSw
    clear hSw
    go_simp
    try with_reducible rfl
  try simp only [Act.put, List.setIfInBounds_toArray, List.set_cons_zero, List.set_cons_succ]
  refine wpAnyH_take (i := 2) (oi := { dst := some 115, op := Op.load 35 (Operand.tmp 114), type := 35, pos := "attr.go:95", after := #[{ on := 1, ground := Ground.data }], guard := none }) (v := ?_) rfl (by kernel_rfl) (by kernel_rfl) (by kernel_rfl) (fun _ _ _ h => h) (Or.inl ⟨by rfl, ?_⟩) hHeld ?_
  rotate_left
  · intro w hSw
    obtain ⟨c0, c1, c2, c3, c4, c5, c6, c7, c8, c9, c10, c11, c12, c13, c14, c15⟩ := atr_cells (HA.out.below hSw HWB.out)
    go_simp
    try with_reducible rfl
  try simp only [Act.put, List.setIfInBounds_toArray, List.set_cons_zero, List.set_cons_succ]
  refine wpAnyH_take (i := 3) (oi := { dst := some 116, op := Op.binOp BinOp.gtr 35 (Operand.tmp 115) (Operand.const (Value.int IntKind.u32 0)) 35, type := 4, pos := "attr.go:95", after := #[{ on := 2, ground := Ground.data }], guard := none }) (v := ?_) rfl (by kernel_rfl) (by kernel_rfl) (by kernel_rfl) (fun _ _ _ h => h) (Or.inl ⟨by rfl, ?_⟩) hHeld ?_
  rotate_left
  · intro w hSw
    clear hSw
    go_simp
    try with_reducible rfl
  try simp only [Act.put, List.setIfInBounds_toArray, List.set_cons_zero, List.set_cons_succ]
  refine wpAnyH_take (i := 4) (oi := { dst := some 117, op := Op.move (Operand.tmp 10), type := 9, pos := "attr.go:95", after := #[], guard := none }) (v := ?_) rfl (by kernel_rfl) (by kernel_rfl) (by kernel_rfl) (fun _ _ _ h => h) (Or.inl ⟨by rfl, ?_⟩) hHeld ?_
  rotate_left
  · intro w hSw
    clear hSw
    go_simp
    try with_reducible rfl
  try simp only [Act.put, List.setIfInBounds_toArray, List.set_cons_zero, List.set_cons_succ]
  refine wpAnyH_take (i := 5) (oi := { dst := some 118, op := Op.fieldAddr 40 (Operand.tmp 2) 9, type := 0, pos := "attr.go:95", after := #[], guard := none }) (v := ?_) rfl (by kernel_rfl) (by kernel_rfl) (by kernel_rfl) (fun _ _ _ h => h) (Or.inl ⟨by rfl, ?_⟩) hHeld ?_
  rotate_left
  · intro w hSw
    clear hSw
    go_simp
    try with_reducible rfl
  try simp only [Act.put, List.setIfInBounds_toArray, List.set_cons_zero, List.set_cons_succ]
  refine wpAnyH_take (i := 6) (oi := { dst := some 119, op := Op.load 35 (Operand.tmp 118), type := 35, pos := "attr.go:95", after := #[{ on := 5, ground := Ground.data }], guard := none }) (v := ?_) rfl (by kernel_rfl) (by kernel_rfl) (by kernel_rfl) (fun _ _ _ h => h) (Or.inl ⟨by rfl, ?_⟩) hHeld ?_
  rotate_left
  · intro w hSw
    obtain ⟨c0, c1, c2, c3, c4, c5, c6, c7, c8, c9, c10, c11, c12, c13, c14, c15⟩ := atr_cells (HA.out.below hSw HWB.out)
    go_simp
    try with_reducible rfl
  try simp only [Act.put, List.setIfInBounds_toArray, List.set_cons_zero, List.set_cons_succ]
  refine wpAnyH_take (i := 7) (oi := { dst := some 120, op := Op.convert 35 57 (Operand.tmp 119), type := 57, pos := "attr.go:95", after := #[{ on := 6, ground := Ground.data }], guard := none }) (v := ?_) rfl (by kernel_rfl) (by kernel_rfl) (by kernel_rfl) (fun _ _ _ h => h) (Or.inl ⟨by rfl, ?_⟩) hHeld ?_
  rotate_left
  · intro w hSw
    clear hSw
    go_simp
    try with_reducible rfl
  try simp only [Act.put, List.setIfInBounds_toArray, List.set_cons_zero, List.set_cons_succ]
  refine wpAnyH_ready (rs := [8]) (by kernel_rfl) (by simp) ?_
  refine AllReadyH.cons (o := { dst := some 121, op := Op.call { callee := Callee.value (Operand.func 51), args := #[Operand.tmp 120, Operand.const (Value.int IntKind.i64 4)], argTypes := #[57, 3] }, type := 9, pos := "attr.go:95", after := #[{ on := 7, ground := Ground.data }], guard := none }) rfl (fun K hK => ?_) AllReadyH.nil
  go_simp
  refine (HNUM.out a.aggId 4 _ (by decide) (by decide) (Nat.lt_of_lt_of_le n4 (by decide)) (by omega)).mono ?_
  rintro e V50 ⟨rfl, hbn⟩
  have hbV : Below V49.heap.size V49 V50 := (below_drewN (Below.refl V49.heap.size V49) 1).trans hbn
  have HOU : Hid (OutV V50 B L6) := HO.out.below hbV
  have HBU : Hid (Below B V49 V50) := hbV.mono hBV.out
  clear hbn hbV
  rw [← HSID.out]
  go_wp2_with fail
  refine hK.out _ _ (HBU.out) (fun hHeld => ?_)
  clear hK K
  try simp only [Act.put, List.setIfInBounds_toArray, List.set_cons_zero, List.set_cons_succ]
  refine wpAnyH_take (i := 9) (oi := { dst := some 122, op := Op.binOp BinOp.add 9 (Operand.tmp 117) (Operand.tmp 121) 9, type := 9, pos := "attr.go:95", after := #[{ on := 4, ground := Ground.data }, { on := 8, ground := Ground.data }], guard := none }) (v := ?_) rfl (by kernel_rfl) (by kernel_rfl) (by kernel_rfl) (fun _ _ _ h => h) (Or.inl ⟨by rfl, ?_⟩) hHeld ?_
  rotate_left
  · intro w hSw
    clear hSw
    go_simp
    try with_reducible rfl
  try simp only [Act.put, List.setIfInBounds_toArray, List.set_cons_zero, List.set_cons_succ]
  refine wpAnyH_ready (rs := [10]) (by kernel_rfl) (by simp) ?_
  refine AllReadyH.cons (o := { dst := some 123, op := Op.call { callee := Callee.value (Operand.tmp 113), args := #[Operand.const (Value.int IntKind.u8 192), Operand.const (Value.int IntKind.u8 7), Operand.tmp 116, Operand.tmp 122], argTypes := #[5, 5, 4, 9] }, type := 0, pos := "attr.go:95", after := #[{ on := 0, ground := Ground.data }, { on := 3, ground := Ground.data }, { on := 9, ground := Ground.data }, { on := 8, ground := Ground.chain }], guard := none }) rfl (fun K hK => ?_) AllReadyH.nil
  go_simp
  refine (HPUT.out B L6 192 7 q7 (bts AG ++ sid) _ HOU.out (by omega)).mono ?_
  rintro e V51 ⟨rfl, ho, hb2⟩
  have HO3 := Lib.hid ho
  have HBW : Hid (Below B V49 V51) := HBU.out.trans hb2
  clear ho hb2
  go_wp2_with fail
  refine hK.out _ _ (HBW.out) (fun hHeld => ?_)
  clear hK K
  try simp only [Act.put, List.setIfInBounds_toArray, List.set_cons_zero, List.set_cons_succ]
  refine wpAnyH_done (by kernel_rfl) ?_ _
  clear hHeld hwr
  have ho := HO3.out
  have hb := HBW.out
  clear HO3 HBW HOU HBU hBV
  obtain ⟨L7, hL7⟩ : ∃ L, L = L6 ++ optR q7 192 7 (bts AG ++ sid) := ⟨_, rfl⟩
  rw [← hL7] at ho
  have hlL7 : L7.length ≤ 7 := by rw [hL7, List.length_append]; have := optR_le q7 192 7 (bts AG ++ sid); omega
  have HL7 := Lib.hid hL7
  clear hL7
  have HA2 : Hid (CellsAt V51 w.heap.size a.ar 40) := HA.out.below hb HWB.out
  have HB2 : Hid (Below w.heap.size w V51) := HB.out.trans (hb.mono (Nat.le_of_lt HWB.out))
  have HO2 : Hid (OutV V51 B (L7)) := ho
  clear hb ho HA HB HO c0 c1 c2 c3 c4 c5 c6 c7 c8 c9 c10 c11 c12 c13 c14 c15
  have HA := HA2
  have HB := HB2
  have HO := HO2
  clear HA2 HB2 HO2
  obtain ⟨c0, c1, c2, c3, c4, c5, c6, c7, c8, c9, c10, c11, c12, c13, c14, c15⟩ := atr_cells HA.out
  rw [HON.out] at c0
  go_wp2_with fail
  refine (HPUT.out B L7 192 8 q8 (bts PM) _ HO.out (by omega)).mono ?_
  rintro e V52 ⟨rfl, ho, hb⟩
  obtain ⟨L8, hL8⟩ : ∃ L, L = L7 ++ optR q8 192 8 (bts PM) := ⟨_, rfl⟩
  rw [← hL8] at ho
  have hlL8 : L8.length ≤ 8 := by rw [hL8, List.length_append]; have := optR_le q8 192 8 (bts PM); omega
  have HL8 := Lib.hid hL8
  clear hL8
  have HA2 : Hid (CellsAt V52 w.heap.size a.ar 40) := HA.out.below hb HWB.out
  have HB2 : Hid (Below w.heap.size w V52) := HB.out.trans (hb.mono (Nat.le_of_lt HWB.out))
  have HO2 : Hid (OutV V52 B (L8)) := ho
  clear hb ho HA HB HO c0 c1 c2 c3 c4 c5 c6 c7 c8 c9 c10 c11 c12 c13 c14 c15
  have HA := HA2
  have HB := HB2
  have HO := HO2
  clear HA2 HB2 HO2
  obtain ⟨c0, c1, c2, c3, c4, c5, c6, c7, c8, c9, c10, c11, c12, c13, c14, c15⟩ := atr_cells HA.out
  rw [HON.out] at c0
  go_wp2_with fail
  have hBV : Hid (B ≤ V52.heap.size) := by
    obtain ⟨_, hq, _⟩ := HO.out.c
    exact Nat.le_of_lt hq.lt
  have hwr : IntKind.u64.wrap ((a.orig : Nat) : Int) = ((a.orig : Nat) : Int) := IntWalk.u64_in _ (by omega)
  refine wp_region_held_drew (S := fun w' => Below B V52 w') (by kernel_rfl) ((below_drewN (Below.refl _ _) 1)) (fun hHeld => ?_)
  refine wpAnyH_take (i := 0) (oi := { dst := some 131, op := Op.move (Operand.tmp 7), type := 90, pos := "attr.go:97", after := #[], guard := none }) (v := ?_) rfl (by kernel_rfl) (by kernel_rfl) (by kernel_rfl) (fun _ _ _ h => h) (Or.inl ⟨by rfl, ?_⟩) hHeld ?_
  rotate_left
  · intro w hSw
    clear hSw
    go_simp
    try with_reducible rfl
  try simp only [Act.put, List.setIfInBounds_toArray, List.set_cons_zero, List.set_cons_succ]
  refine wpAnyH_take (i := 1) (oi := { dst := some 132, op := Op.fieldAddr 40 (Operand.tmp 2) 13, type := 0, pos := "attr.go:97", after := #[], guard := none }) (v := ?_) rfl (by kernel_rfl) (by kernel_rfl) (by kernel_rfl) (fun _ _ _ h => h) (Or.inl ⟨by rfl, ?_⟩) hHeld ?_
  rotate_left
  · intro w hSw
    clear hSw
    go_simp
    try with_reducible rfl
  try simp only [Act.put, List.setIfInBounds_toArray, List.set_cons_zero, List.set_cons_succ]
  refine wpAnyH_take (i := 2) (oi := { dst := some 133, op := Op.load 4 (Operand.tmp 132), type := 4, pos := "attr.go:97", after := #[{ on := 1, ground := Ground.data }], guard := none }) (v := ?_) rfl (by kernel_rfl) (by kernel_rfl) (by kernel_rfl) (fun _ _ _ h => h) (Or.inl ⟨by rfl, ?_⟩) hHeld ?_
  rotate_left
  · intro w hSw
    obtain ⟨c0, c1, c2, c3, c4, c5, c6, c7, c8, c9, c10, c11, c12, c13, c14, c15⟩ := atr_cells (HA.out.below hSw HWB.out)
    go_simp
    try with_reducible rfl
  try simp only [Act.put, List.setIfInBounds_toArray, List.set_cons_zero, List.set_cons_succ]
  refine wpAnyH_take (i := 3) (oi := { dst := some 134, op := Op.fieldAddr 40 (Operand.tmp 2) 14, type := 0, pos := "attr.go:97", after := #[], guard := none }) (v := ?_) rfl (by kernel_rfl) (by kernel_rfl) (by kernel_rfl) (fun _ _ _ h => h) (Or.inl ⟨by rfl, ?_⟩) hHeld ?_
  rotate_left
  · intro w hSw
    clear hSw
    go_simp
    try with_reducible rfl
  try simp only [Act.put, List.setIfInBounds_toArray, List.set_cons_zero, List.set_cons_succ]
  refine wpAnyH_take (i := 4) (oi := { dst := some 135, op := Op.load 35 (Operand.tmp 134), type := 35, pos := "attr.go:97", after := #[{ on := 3, ground := Ground.data }], guard := none }) (v := ?_) rfl (by kernel_rfl) (by kernel_rfl) (by kernel_rfl) (fun _ _ _ h => h) (Or.inl ⟨by rfl, ?_⟩) hHeld ?_
  rotate_left
  · intro w hSw
    obtain ⟨c0, c1, c2, c3, c4, c5, c6, c7, c8, c9, c10, c11, c12, c13, c14, c15⟩ := atr_cells (HA.out.below hSw HWB.out)
    go_simp
    try with_reducible rfl
  try simp only [Act.put, List.setIfInBounds_toArray, List.set_cons_zero, List.set_cons_succ]
  refine wpAnyH_take (i := 5) (oi := { dst := some 136, op := Op.convert 35 57 (Operand.tmp 135), type := 57, pos := "attr.go:97", after := #[{ on := 4, ground := Ground.data }], guard := none }) (v := ?_) rfl (by kernel_rfl) (by kernel_rfl) (by kernel_rfl) (fun _ _ _ h => h) (Or.inl ⟨by rfl, ?_⟩) hHeld ?_
  rotate_left
  · intro w hSw
    clear hSw
    go_simp
    try with_reducible rfl
  try simp only [Act.put, List.setIfInBounds_toArray, List.set_cons_zero, List.set_cons_succ]
  refine wpAnyH_ready (rs := [6]) (by kernel_rfl) (by simp) ?_
  refine AllReadyH.cons (o := { dst := some 137, op := Op.call { callee := Callee.value (Operand.func 51), args := #[Operand.tmp 136, Operand.const (Value.int IntKind.i64 4)], argTypes := #[57, 3] }, type := 9, pos := "attr.go:97", after := #[{ on := 5, ground := Ground.data }], guard := none }) rfl (fun K hK => ?_) AllReadyH.nil
  go_simp
  refine (HNUM.out a.orig 4 _ (by decide) (by decide) (Nat.lt_of_lt_of_le n5 (by decide)) (by omega)).mono ?_
  rintro e V53 ⟨rfl, hbn⟩
  have hbV : Below V52.heap.size V52 V53 := (below_drewN (Below.refl V52.heap.size V52) 1).trans hbn
  have HOU : Hid (OutV V53 B L8) := HO.out.below hbV
  have HBU : Hid (Below B V52 V53) := hbV.mono hBV.out
  clear hbn hbV
  go_wp2_with fail
  refine hK.out _ _ (HBU.out) (fun hHeld => ?_)
  clear hK K
  try simp only [Act.put, List.setIfInBounds_toArray, List.set_cons_zero, List.set_cons_succ]
  refine wpAnyH_ready (rs := [7]) (by kernel_rfl) (by simp) ?_
  refine AllReadyH.cons (o := { dst := some 138, op := Op.call { callee := Callee.value (Operand.tmp 131), args := #[Operand.const (Value.int IntKind.u8 128), Operand.const (Value.int IntKind.u8 9), Operand.tmp 133, Operand.tmp 137], argTypes := #[5, 5, 4, 9] }, type := 0, pos := "attr.go:97", after := #[{ on := 0, ground := Ground.data }, { on := 2, ground := Ground.data }, { on := 6, ground := Ground.data }, { on := 6, ground := Ground.chain }], guard := none }) rfl (fun K hK => ?_) AllReadyH.nil
  go_simp
  refine (HPUT.out B L8 128 9 a.hasOrig (bts (beB a.orig 4 4)) _ HOU.out (by omega)).mono ?_
  rintro e V54 ⟨rfl, ho, hb2⟩
  have HO3 := Lib.hid ho
  have HBW : Hid (Below B V52 V54) := HBU.out.trans hb2
  clear ho hb2
  go_wp2_with fail
  refine hK.out _ _ (HBW.out) (fun hHeld => ?_)
  clear hK K
  try simp only [Act.put, List.setIfInBounds_toArray, List.set_cons_zero, List.set_cons_succ]
  refine wpAnyH_done (by kernel_rfl) ?_ _
  clear hHeld hwr
  have ho := HO3.out
  have hb := HBW.out
  clear HO3 HBW HOU HBU hBV
  obtain ⟨L9, hL9⟩ : ∃ L, L = L8 ++ optR a.hasOrig 128 9 (bts (beB a.orig 4 4)) := ⟨_, rfl⟩
  rw [← hL9] at ho
  have hlL9 : L9.length ≤ 9 := by rw [hL9, List.length_append]; have := optR_le a.hasOrig 128 9 (bts (beB a.orig 4 4)); omega
  have HL9 := Lib.hid hL9
  clear hL9
  have HA2 : Hid (CellsAt V54 w.heap.size a.ar 40) := HA.out.below hb HWB.out
  have HB2 : Hid (Below w.heap.size w V54) := HB.out.trans (hb.mono (Nat.le_of_lt HWB.out))
  have HO2 : Hid (OutV V54 B (L9)) := ho
  clear hb ho HA HB HO c0 c1 c2 c3 c4 c5 c6 c7 c8 c9 c10 c11 c12 c13 c14 c15
  have HA := HA2
  have HB := HB2
  have HO := HO2
  clear HA2 HB2 HO2
  obtain ⟨c0, c1, c2, c3, c4, c5, c6, c7, c8, c9, c10, c11, c12, c13, c14, c15⟩ := atr_cells HA.out
  rw [HON.out] at c0
  go_wp2_with fail
  refine (HPUT.out B L9 128 10 q10 (bts PK) _ HO.out (by omega)).mono ?_
  rintro e V55 ⟨rfl, ho, hb⟩
  obtain ⟨L10, hL10⟩ : ∃ L, L = L9 ++ optR q10 128 10 (bts PK) := ⟨_, rfl⟩
  rw [← hL10] at ho
  have hlL10 : L10.length ≤ 10 := by rw [hL10, List.length_append]; have := optR_le q10 128 10 (bts PK); omega
  have HL10 := Lib.hid hL10
  clear hL10
  have HA2 : Hid (CellsAt V55 w.heap.size a.ar 40) := HA.out.below hb HWB.out
  have HB2 : Hid (Below w.heap.size w V55) := HB.out.trans (hb.mono (Nat.le_of_lt HWB.out))
  have HO2 : Hid (OutV V55 B (L10)) := ho
  clear hb ho HA HB HO c0 c1 c2 c3 c4 c5 c6 c7 c8 c9 c10 c11 c12 c13 c14 c15
  have HA := HA2
  have HB := HB2
  have HO := HO2
  clear HA2 HB2 HO2
  obtain ⟨c0, c1, c2, c3, c4, c5, c6, c7, c8, c9, c10, c11, c12, c13, c14, c15⟩ := atr_cells HA.out
  rw [HON.out] at c0
  go_wp2_with fail
  refine (HPUT.out B L10 192 16 q16 (bts PX) _ HO.out (by omega)).mono ?_
  rintro e V56 ⟨rfl, ho, hb⟩
  obtain ⟨L11, hL11⟩ : ∃ L, L = L10 ++ optR q16 192 16 (bts PX) := ⟨_, rfl⟩
  rw [← hL11] at ho
  have hlL11 : L11.length ≤ 11 := by rw [hL11, List.length_append]; have := optR_le q16 192 16 (bts PX); omega
  have HL11 := Lib.hid hL11
  clear hL11
  have HA2 : Hid (CellsAt V56 w.heap.size a.ar 40) := HA.out.below hb HWB.out
  have HB2 : Hid (Below w.heap.size w V56) := HB.out.trans (hb.mono (Nat.le_of_lt HWB.out))
  have HO2 : Hid (OutV V56 B (L11)) := ho
  clear hb ho HA HB HO c0 c1 c2 c3 c4 c5 c6 c7 c8 c9 c10 c11 c12 c13 c14 c15
  have HA := HA2
  have HB := HB2
  have HO := HO2
  clear HA2 HB2 HO2
  obtain ⟨c0, c1, c2, c3, c4, c5, c6, c7, c8, c9, c10, c11, c12, c13, c14, c15⟩ := atr_cells HA.out
  rw [HON.out] at c0
  go_wp2_with fail
  refine (HPUT.out B L11 192 32 q32 (bts PL) _ HO.out (by omega)).mono ?_
  rintro e V57 ⟨rfl, ho, hb⟩
  obtain ⟨L12, hL12⟩ : ∃ L, L = L11 ++ optR q32 192 32 (bts PL) := ⟨_, rfl⟩
  rw [← hL12] at ho
  have hlL12 : L12.length ≤ 12 := by rw [hL12, List.length_append]; have := optR_le q32 192 32 (bts PL); omega
  have HL12 := Lib.hid hL12
  clear hL12
  have HA2 : Hid (CellsAt V57 w.heap.size a.ar 40) := HA.out.below hb HWB.out
  have HB2 : Hid (Below w.heap.size w V57) := HB.out.trans (hb.mono (Nat.le_of_lt HWB.out))
  have HO2 : Hid (OutV V57 B (L12)) := ho
  clear hb ho HA HB HO c0 c1 c2 c3 c4 c5 c6 c7 c8 c9 c10 c11 c12 c13 c14 c15
  have HA := HA2
  have HB := HB2
  have HO := HO2
  clear HA2 HB2 HO2
  obtain ⟨c0, c1, c2, c3, c4, c5, c6, c7, c8, c9, c10, c11, c12, c13, c14, c15⟩ := atr_cells HA.out
  rw [HON.out] at c0
  obtain ⟨v, hcv, hov⟩ := HO.out.c
  have HOV := Lib.hid hov
  have cv := hcv.c1
  clear hcv hov
  have HFL : Hid (L12 = writeF a.c four) := by
    show _ = _
    rw [HWF.out, HL12.out, HL11.out, HL10.out, HL9.out, HL8.out, HL7.out, HL6.out, HL5.out, HL4.out, HL3.out, HL2.out, HL1.out, HAG2.out]
    simp only [List.nil_append, List.append_assoc]
  go_wp2_with fail
  go_ret2
  refine ⟨⟨v, rfl, ?_⟩, HB.out⟩
  rw [← HFL.out]
  exact OwnM.lower HOV.out (Nat.le_succ_of_le (Nat.le_of_lt HWB.out))
end Go.Proofs.YtkcojblflebomaaGreat
