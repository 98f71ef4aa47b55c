/-
  Several texts in one.
-/
import Derived.Test.YtojiieghjhjoaaaGreatKN40
set_option linter.unusedVariables false
set_option linter.unusedSimpArgs false
namespace Go.Proofs.YtojiieghjhjoaaaGreat
open Go.RowKit Go.MapKept Go.Shelf
open Go.Lib hiding intOf

def nB : ByteArray := ⟨#[98]⟩
def nC : ByteArray := ⟨#[99]⟩
def cB : AtC := ⟨0, [(2, [65000, 65001])], ⟨#[10, 0, 0, 1]⟩, false, 0, false, 0, false, 0, 0, [], [], [], false, 0, []⟩
def cC : AtC := ⟨0, [(2, [65001])], ⟨#[10, 0, 0, 2]⟩, true, 5, true, 100, false, 0, 0, [], [], [], false, 0, []⟩
theorem told_B (b c : Nat) : toldF g0 (mkPth 2 b) (mkPr nB 65002 c) = (cB, true) := by kernel_rfl
theorem told_C (b c : Nat) : toldF g0 (mkPth 2 b) (mkPr nC 65000 c) = (cC, true) := by kernel_rfl
theorem lenF_one {l : List Sg} (h : l.map Sg.c = [(2, [65001])]) : lenF l = 1 := by
  rcases l with _ | ⟨⟨k, A, as_, c⟩, _ | ⟨t, r⟩⟩
  · cases h
  · have h1 : (k, as_) = ((2 : Int), [65001]) := (List.cons.inj h).1
    obtain ⟨rfl, rfl⟩ := Prod.mk.inj h1
    exact (show lenF [⟨2, A, [65001], c⟩] = wrap64 (0 + 1) from rfl).trans (by decide +kernel)
  · have h1 : List.map Sg.c (t :: r) = [] := (List.cons.inj h).2
    cases h1
theorem seg_two {V : World} {b : Nat} (h1 : CellsAt V b #[.int .u32 65000, .int .u32 65001] 22) (h2 : CellsAt V (b + 1) #[.int .i64 2, .slice (some ⟨b, 0, none⟩) 2 2] 67) : SegsOk V (some ⟨b + 1, 0, none⟩) 1 [⟨2, some ⟨b, 0, none⟩, [65000, 65001], 2⟩] := by
  have hs : SgOk V ⟨2, some ⟨b, 0, none⟩, [65000, 65001], 2⟩ := by
    refine ⟨fun _ => ⟨b, 0, rfl, h1.lt, fun i cs hi j u hu => ?_⟩, Nat.le_refl _, show (2 : Nat) ≤ maxLen by decide, show ∀ n ∈ [65000, 65001], n < 4294967296 by decide, show (-9223372036854775808 : Int) ≤ 2 ∧ (2 : Int) ≤ 9223372036854775807 by decide⟩
    match i, hi with
    | 0, hi =>
      obtain rfl : [Value.int .u32 ((65000 : Nat) : Int)] = cs := Option.some.inj hi
      match j, hu with
      | 0, hu =>
        obtain rfl : Value.int .u32 ((65000 : Nat) : Int) = u := Option.some.inj hu
        exact h1.c 0
      | j + 1, hu => cases hu
    | 1, hi =>
      obtain rfl : [Value.int .u32 ((65001 : Nat) : Int)] = cs := Option.some.inj hi
      match j, hu with
      | 0, hu =>
        obtain rfl : Value.int .u32 ((65001 : Nat) : Int) = u := Option.some.inj hu
        exact h1.c 1
      | j + 1, hu => cases hu
    | i + 2, hi => cases hi
  refine ⟨fun _ => ⟨b + 1, 0, rfl, h2.lt, fun i cs hi j u hu => ?_⟩, fun s hm => ?_, Nat.le_refl _, by decide⟩
  · match i, hi with
    | 0, hi =>
      obtain rfl : [Value.int .i64 2, .slice (some ⟨b, 0, none⟩) 2 2] = cs := Option.some.inj hi
      rw [show 0 + 0 * 2 + j = j by omega, h2.c, ← Array.getElem?_toList]
      exact hu
    | i + 1, hi => cases hi
  · obtain rfl := List.mem_singleton.1 hm
    exact hs
theorem to_B (w : World) : Calls Tryz.prog 23 #[.string ⟨#[98]⟩, .int .u32 65002] w fun e w' => (∃ b, e = .returned (.agg (mkPr nB 65002 b).ar) ∧ PrOk w' (mkPr nB 65002 b)) ∧ Below w.heap.size w w' := to_any nB 65002 w (by decide) (by decide)
theorem to_C (w : World) : Calls Tryz.prog 23 #[.string ⟨#[99]⟩, .int .u32 65000] w fun e w' => (∃ b, e = .returned (.agg (mkPr nC 65000 b).ar) ∧ PrOk w' (mkPr nC 65000 b)) ∧ Below w.heap.size w w' := to_any nC 65000 w (by decide) (by decide)
theorem path_2 (w : World) : Calls Tryz.prog 22 #[.int .i64 2] w fun e w' => (∃ b, e = .returned (.agg (mkPth 2 b).ar) ∧ PthOk w' (mkPth 2 b)) ∧ Below w.heap.size w w' := path_any 2 w (by decide)
set_option maxRecDepth 100000 in
set_option maxHeartbeats 16000000 in
theorem works_any (w : World) : Calls Tryz.prog 14 #[] w fun e w' => e = .returned (.bool true) ∧ Below w.heap.size w w' := by
  have HU := Lib.hid us_any
  have HCF := Lib.hid conf_any
  have HPA := Lib.hid path_2
  have HTB := Lib.hid to_B
  have HTC := Lib.hid to_C
  have HTO := Lib.hid told_any
  go_enter Tryz.func14, Tryz.ntmps14
  go_wp2_with fail
  refine (HU.out _).mono ?_
  rintro e w1 ⟨rfl, hb1⟩
  have HB1 := Lib.hid hb1
  clear hb1
  go_wp2_with fail
  refine (HCF.out g0 _).mono ?_
  rintro e w2 ⟨rfl, hb2⟩
  have HB2 : Hid (Below w.heap.size w w2) := HB1.out.trans (hb2.mono HB1.out.size)
  clear hb2 HB1
  go_wp2_with fail
  refine (HPA.out _).mono ?_
  rintro e w3 ⟨⟨b1, rfl, hp1⟩, hb3⟩
  have HB3 : Hid (Below w.heap.size w w3) := HB2.out.trans (hb3.mono HB2.out.size)
  have HP1 := Lib.hid hp1
  clear hb3 HB2 hp1
  go_wp2_with fail
  refine (HTB.out _).mono ?_
  rintro e w4 ⟨⟨b2, rfl, hr1⟩, hb4⟩
  have HB4 : Hid (Below w.heap.size w w4) := HB3.out.trans (hb4.mono HB3.out.size)
  have HP2 : Hid (PthOk w4 (mkPth 2 b1)) := HP1.out.below hb4 (Nat.le_refl _)
  have HR1 := Lib.hid hr1
  clear hb4 HB3 HP1 hr1
  go_wp2_with fail
  refine (HTO.out g0 (mkPth 2 b1) (mkPr nB 65002 b2) _ g0_ok HP2.out HR1.out).mono ?_
  rintro e w5 ⟨x1, rfl, ho1, hc1, hb5⟩
  rw [told_B] at hc1 ⊢
  have HO1 := Lib.hid ho1
  have HC1 := Lib.hid hc1
  have HB5 : Hid (Below w.heap.size w w5) := HB4.out.trans (hb5.mono HB4.out.size)
  clear ho1 hc1 hb5 HB4 HP2 HR1
  go_upto_region 2 with (with_reducible show wpList _ _ _ (_ :: _) _ _; refine wpList_new_row rfl _ (.tmp 1) (.tmp 11) rfl rfl x1.ar rfl 16 atZ rfl rfl (attrs_ones x1) ?_)
  intro V1 HX1 HB6
  obtain ⟨s1, hs1⟩ : ∃ s, s = w5.heap.size := ⟨_, rfl⟩
  have HB7 : Hid (Below w.heap.size w V1) := HB5.out.trans (HB6.out.mono HB5.out.size)
  have HA1 : Hid (AtrOk V1 x1) := HO1.out.ok.below HB6.out (Nat.le_refl _)
  rw [← hs1] at HX1 ⊢
  clear hs1 HB6 HB5 HO1
  go_wp2_with fail
  refine (HU.out _).mono ?_
  rintro e w1 ⟨rfl, hb1⟩
  have HB1 : Hid (Below w.heap.size w w1) := HB7.out.trans (hb1.mono HB7.out.size)
  have HA2 : Hid (AtrOk w1 x1) := HA1.out.below hb1 (Nat.le_refl _)
  have HX2 : Hid (CellsAt w1 s1 x1.ar 33) := HX1.out.below hb1 HX1.out.lt
  clear hb1 HB7 HA1 HX1
  go_wp2_with fail
  refine (HCF.out g0 _).mono ?_
  rintro e w2 ⟨rfl, hb1⟩
  have HB2 : Hid (Below w.heap.size w w2) := HB1.out.trans (hb1.mono HB1.out.size)
  have HA1 : Hid (AtrOk w2 x1) := HA2.out.below hb1 (Nat.le_refl _)
  have HX1 : Hid (CellsAt w2 s1 x1.ar 33) := HX2.out.below hb1 HX2.out.lt
  clear hb1 HB1 HA2 HX2
  go_wp2_with fail
  refine (HPA.out _).mono ?_
  rintro e w3 ⟨⟨b3, rfl, hp1⟩, hb1⟩
  have HB3 : Hid (Below w.heap.size w w3) := HB2.out.trans (hb1.mono HB2.out.size)
  have HA2 : Hid (AtrOk w3 x1) := HA1.out.below hb1 (Nat.le_refl _)
  have HX2 : Hid (CellsAt w3 s1 x1.ar 33) := HX1.out.below hb1 HX1.out.lt
  have HP1 := Lib.hid hp1
  clear hb1 HB2 HA1 HX1 hp1
  go_wp2_with fail
  refine (HTC.out _).mono ?_
  rintro e w4 ⟨⟨b4, rfl, hr1⟩, hb1⟩
  have HB4 : Hid (Below w.heap.size w w4) := HB3.out.trans (hb1.mono HB3.out.size)
  have HA1 : Hid (AtrOk w4 x1) := HA2.out.below hb1 (Nat.le_refl _)
  have HX1 : Hid (CellsAt w4 s1 x1.ar 33) := HX2.out.below hb1 HX2.out.lt
  have HP2 : Hid (PthOk w4 (mkPth 2 b3)) := HP1.out.below hb1 (Nat.le_refl _)
  have HR1 := Lib.hid hr1
  clear hb1 HB3 HA2 HX2 HP1 hr1
  go_wp2_with fail
  refine (HTO.out g0 (mkPth 2 b3) (mkPr nC 65000 b4) _ g0_ok HP2.out HR1.out).mono ?_
  rintro e w5 ⟨x2, rfl, ho1, hc1, hb1⟩
  rw [told_C] at hc1 ⊢
  have HB5 : Hid (Below w.heap.size w w5) := HB4.out.trans (hb1.mono HB4.out.size)
  have HA2 : Hid (AtrOk w5 x1) := HA1.out.below hb1 (Nat.le_refl _)
  have HX2 : Hid (CellsAt w5 s1 x1.ar 33) := HX1.out.below hb1 HX1.out.lt
  have HO2 := Lib.hid ho1
  have HC2 := Lib.hid hc1
  clear hb1 HB4 HA1 HX1 HP2 HR1 ho1 hc1
  go_upto_region 3 with (with_reducible show wpList _ _ _ (_ :: _) _ _; refine wpList_new_row rfl _ (.tmp 3) (.tmp 19) rfl rfl x2.ar rfl 16 atZ rfl rfl (attrs_ones x2) ?_)
  intro V2 HX3 HB6
  obtain ⟨s2, hs2⟩ : ∃ s, s = w5.heap.size := ⟨_, rfl⟩
  have HB7 : Hid (Below w.heap.size w V2) := HB5.out.trans (HB6.out.mono HB5.out.size)
  have HA1 : Hid (AtrOk V2 x1) := HA2.out.below HB6.out (Nat.le_refl _)
  have HX1 : Hid (CellsAt V2 s1 x1.ar 33) := HX2.out.below HB6.out HX2.out.lt
  have HA3 : Hid (AtrOk V2 x2) := HO2.out.ok.below HB6.out (Nat.le_refl _)
  rw [← hs2] at HX3 ⊢
  clear hs2 HB6 HB5 HA2 HX2 HO2
  have HS1 : Hid (x1.segs.map Sg.c = [(2, [65000, 65001])]) := congrArg AtC.path HC1.out
  have HS2 : Hid (x2.segs.map Sg.c = [(2, [65001])]) := congrArg AtC.path HC2.out
  have k1 : V2.cell? ⟨s1, 1, none⟩ = some (.slice x1.pA x1.segs.length x1.pC) := (HX1.out.c 1).trans rfl
  have k2 : V2.cell? ⟨s1, 2, none⟩ = some (.string ⟨#[10, 0, 0, 1]⟩) := by rw [show (⟨#[10, 0, 0, 1]⟩ : ByteArray) = x1.next from (congrArg AtC.next HC1.out).symm]; exact (HX1.out.c 2).trans rfl
  have k3 : V2.cell? ⟨s1, 3, none⟩ = some (.bool false) := by rw [show false = x1.hasMed from (congrArg AtC.hasMed HC1.out).symm]; exact (HX1.out.c 3).trans rfl
  have k5 : V2.cell? ⟨s1, 5, none⟩ = some (.bool false) := by rw [show false = x1.hasPref from (congrArg AtC.hasPref HC1.out).symm]; exact (HX1.out.c 5).trans rfl
  have h1l := HA1.out.plen
  have h1c : x1.pC ≤ 9223372036854775807 := HA1.out.pcap
  have HSAME : Hid (Calls Tryz.prog 24 #[.slice x1.pA x1.segs.length x1.pC, .slice (some ⟨V2.heap.size + 1, 0, none⟩) 1 1] ((V2.alloc (.cells #[.int .u32 65000, .int .u32 65001] 22)).alloc (.cells #[.int .i64 2, .slice (some ⟨V2.heap.size, 0, none⟩) 2 2] 67)) fun e w' => e = .returned (.bool true) ∧ Below ((V2.alloc (.cells #[.int .u32 65000, .int .u32 65001] 22)).alloc (.cells #[.int .i64 2, .slice (some ⟨V2.heap.size, 0, none⟩) 2 2] 67)).heap.size ((V2.alloc (.cells #[.int .u32 65000, .int .u32 65001] 22)).alloc (.cells #[.int .i64 2, .slice (some ⟨V2.heap.size, 0, none⟩) 2 2] 67)) w') := by
    have h := psame_any x1.pA (some ⟨V2.heap.size + 1, 0, none⟩) x1.pC 1 x1.segs [⟨2, some ⟨V2.heap.size, 0, none⟩, [65000, 65001], 2⟩] ((V2.alloc (.cells #[.int .u32 65000, .int .u32 65001] 22)).alloc (.cells #[.int .i64 2, .slice (some ⟨V2.heap.size, 0, none⟩) 2 2] 67)) (HA1.out.path.below (below2 _ _ _) (Nat.le_refl _)) (seg_two (new1 _ _ _ _) (new2b _ _ _ _))
    rw [HS1.out] at h
    exact h
  have HBA : Hid (Below V2.heap.size V2 ((V2.alloc (.cells #[.int .u32 65000, .int .u32 65001] 22)).alloc (.cells #[.int .i64 2, .slice (some ⟨V2.heap.size, 0, none⟩) 2 2] 67))) := below2 _ _ _
  clear HS1 HA1 HX1
  go_wp2_with fail
  refine HSAME.out.mono ?_
  rintro e w6 ⟨rfl, hb6⟩
  have hb7 : Below V2.heap.size V2 w6 := HBA.out.trans (hb6.mono HBA.out.size)
  have HB8 : Hid (Below w.heap.size w w6) := HB7.out.trans (hb7.mono HB7.out.size)
  have HA4 : Hid (AtrOk w6 x2) := HA3.out.below hb7 (Nat.le_refl _)
  have HX4 : Hid (CellsAt w6 s2 x2.ar 33) := HX3.out.below hb7 HX3.out.lt
  clear hb6 hb7 HB7 HA3 HX3 HBA HSAME k1 k2 k3 k5 h1l h1c
  have k1 : w6.cell? ⟨s2, 1, none⟩ = some (.slice x2.pA x2.segs.length x2.pC) := (HX4.out.c 1).trans rfl
  have k2 : w6.cell? ⟨s2, 2, none⟩ = some (.string ⟨#[10, 0, 0, 2]⟩) := by rw [show (⟨#[10, 0, 0, 2]⟩ : ByteArray) = x2.next from (congrArg AtC.next HC2.out).symm]; exact (HX4.out.c 2).trans rfl
  have k4 : w6.cell? ⟨s2, 4, none⟩ = some (.int .u32 5) := by rw [show (5 : Int) = ((x2.med : Nat) : Int) from congrArg (fun n : Nat => (n : Int)) (congrArg AtC.med HC2.out).symm]; exact (HX4.out.c 4).trans rfl
  have k5 : w6.cell? ⟨s2, 5, none⟩ = some (.bool true) := by rw [show true = x2.hasPref from (congrArg AtC.hasPref HC2.out).symm]; exact (HX4.out.c 5).trans rfl
  have k6 : w6.cell? ⟨s2, 6, none⟩ = some (.int .u32 100) := by rw [show (100 : Int) = ((x2.pref : Nat) : Int) from congrArg (fun n : Nat => (n : Int)) (congrArg AtC.pref HC2.out).symm]; exact (HX4.out.c 6).trans rfl
  have h1l := HA4.out.plen
  have h1c : x2.pC ≤ 9223372036854775807 := HA4.out.pcap
  have HLEN : Hid (Calls Tryz.prog 28 #[.slice x2.pA x2.segs.length x2.pC] w6 fun e w' => e = .returned (.int .i64 1) ∧ Below w6.heap.size w6 w') := by
    have h := length_any x2.pA x2.segs x2.pC w6 HA4.out.prd HA4.out.plen HA4.out.pcap
    rw [lenF_one HS2.out] at h
    exact h
  clear HA4 HX4 HC1 HC2
  go_wp2_with fail
  refine HLEN.out.mono ?_
  rintro e w7 ⟨rfl, hb7⟩
  have HB9 : Hid (Below w.heap.size w w7) := HB8.out.trans (hb7.mono HB8.out.size)
  clear hb7 HB8 k1 k2 k4 k5 k6
  go_wp2_with fail
  go_ret
  exact ⟨rfl, HB9.out⟩
end Go.Proofs.YtojiieghjhjoaaaGreat
