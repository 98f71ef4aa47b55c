/-
  Several texts in one.
-/
import Derived.Test.YtojiieghjhjoaaaGreatMY16
import Derived.Test.YtojiieghjhjoaaaGreatMY17
set_option linter.unusedVariables false
set_option linter.unusedSimpArgs false
namespace Go.Proofs.YtojiieghjhjoaaaGreat
open Go.RowKit Go.MapKept Go.Shelf
open Go.Lib hiding intOf

theorem AtO.lower' {w : World} {b b' : Nat} {a : Atr} (h : AtO w b a) (hb : b' ≤ b) : AtO w b' a :=
  { h with path := ⟨OwnM.lower h.path.own hb, fun s hs => ⟨OwnM.lower (h.path.as_ s hs).1 hb, (h.path.as_ s hs).2⟩⟩, comms := OwnM.lower h.comms hb, exts := OwnM.lower h.exts hb, larges := OwnM.lower h.larges hb, clus := OwnM.lower h.clus hb }
set_option maxRecDepth 100000 in
set_option maxHeartbeats 8000000 in
theorem rown_any (a : Atr) (w : World) (h : AtrOk w a) (hz : AtrSz a.c) :
    Calls Tryz.prog 30 #[a.v] w fun e w' => (∃ a' : Atr, e = .returned (.agg a'.ar) ∧ AtO w' w.heap.size a' ∧ a'.c = a.c) ∧ Below w.heap.size w w' := by
  have HA := Lib.hid h
  have HZ := Lib.hid hz
  have hz1 : a.comms.length * 4 ≤ 140737488355328 := by have : a.comms.length * 4 ≤ 140737488351232 := hz.m; omega
  have hz2 : a.exts.length * 8 ≤ 140737488355328 := by have : a.exts.length * 8 ≤ 140737488351232 := hz.x; omega
  have hz3 : a.larges.length * 12 ≤ 140737488355328 := by have : a.larges.length * 12 ≤ 140737488351232 := hz.l; omega
  have hz4 : a.clus.length * 4 ≤ 140737488355328 := by have : a.clus.length * 4 ≤ 140737488351232 := hz.k; omega
  have HZP : Hid (a.segs.length * 32 ≤ 140737488351232) := by
    have h1 := hz.p
    show _ ≤ _
    have h2 : a.c.path.length = a.segs.length := by show (a.segs.map Sg.c).length = _; simp
    rwa [h2] at h1
  have HZS : Hid (∀ s ∈ a.segs, s.as_.length * 4 ≤ 140737488351232) := fun s hs => hz.s s.c (List.mem_map_of_mem hs)
  have HOWN := Lib.hid rownall_any
  clear h hz
  obtain ⟨V, hV⟩ : ∃ V, V = (w.alloc (.cells a.ar 33)).alloc (.cells noAtr.ar 33) := ⟨_, rfl⟩
  have HC0 : Hid (CellsAt V w.heap.size a.ar 33) := by rw [hV]; exact (CellsAt.new _ _ _).alloc _
  have HD0 : Hid (CellsAt V (w.heap.size + 1) noAtr.ar 33) := by
    rw [hV]
    have h := CellsAt.new (w.alloc (.cells a.ar 33)) noAtr.ar 33
    rwa [show (w.alloc (.cells a.ar 33)).heap.size = w.heap.size + 1 by simp] at h
  have HB0 : Hid (Below w.heap.size w V) := by rw [hV]; exact ((Below.refl _ _).alloc (Nat.le_refl _) _).alloc (by simp) _
  have hVs : V.heap.size = w.heap.size + 1 + 1 := by rw [hV]; simp
  have HVS := Lib.hid hVs
  clear hVs
  unfold Atr.v
  go_enter Tryz.func30, Tryz.ntmps30
  go_upto_region 1 with fail
  change Code.wp _ _ _ _ ((w.alloc (.cells a.ar 33)).alloc (.cells noAtr.ar 33))
  rw [← hV]
  clear hV
  obtain ⟨c0, c1, c2, c3, c4, c5, c6, c7, c8, c9, c10, c11, c12, c13, c14, c15⟩ := atr_cells HC0.out
  go_wp2_with fail
  refine (HOWN.out a.pA a.pC a.segs _ (HA.out.below HB0.out (Nat.le_refl _)).prd (HA.out.below HB0.out (Nat.le_refl _)).segs HA.out.plen HA.out.pcap HZS.out HZP.out).mono ?_
  rintro e w1 ⟨⟨A1, p1, segs, rfl, hsl, hsc, hso⟩, hb1⟩
  have HSL := Lib.hid hsl
  have HSC := Lib.hid hsc
  have HP1 : Hid (SegsO w1 (w.heap.size + 1 + 1) (.slice A1 segs.length p1) segs) := by
    have h := hso
    rwa [HVS.out] at h
  have HC1 : Hid (CellsAt w1 w.heap.size a.ar 33) := HC0.out.below hb1 HC0.out.lt
  have HD1 : Hid (CellsAt w1 (w.heap.size + 1) noAtr.ar 33) := HD0.out.below hb1 HD0.out.lt
  have HB1 : Hid (Below w.heap.size w w1) := HB0.out.trans (hb1.mono HB0.out.size)
  have HW1 : Hid (w.heap.size + 1 + 1 ≤ w1.heap.size) := by show _ ≤ _; rw [← HVS.out]; exact hb1.size
  clear hsl hsc hso hb1 HC0 HD0 HB0 c0 c1 c2 c3 c4 c5 c6 c7 c8 c9 c10 c11 c12 c13 c14 c15
  obtain ⟨c0, c1, c2, c3, c4, c5, c6, c7, c8, c9, c10, c11, c12, c13, c14, c15⟩ := atr_cells HC1.out
  have ef := HC1.out.unfrz 1
  obtain ⟨a1, ha1⟩ : ∃ b : Atr, b = { a with pA := A1, segs := segs, pC := p1 } := ⟨_, rfl⟩
  have HE1 : Hid (a1 = { a with pA := A1, segs := segs, pC := p1 }) := ha1
  have HCS1 : Hid (CellsAt (w1.setCell ⟨w.heap.size, 1, none⟩ (.slice A1 a.segs.length p1)) w.heap.size a1.ar 33) := by
    have h := HC1.out.setAt 1 (.slice A1 a.segs.length p1)
    show CellsAt _ _ _ _
    rw [ha1]
    show CellsAt _ _ #[_, .slice A1 segs.length p1, _, _, _, _, _, _, _, _, _, _, _, _, _, _] _
    rw [HSL.out]
    exact h
  clear ha1
  go_upto_region 5 with fail
  obtain ⟨S1, hS1⟩ : ∃ S, S = w1.setCell ⟨w.heap.size, 1, none⟩ (.slice A1 a.segs.length p1) := ⟨_, rfl⟩
  have HKP1 : Hid (∀ q, w.heap.size + 1 + 1 ≤ q → q < w1.heap.size → S1.heap[q]? = w1.heap[q]?) := fun q h1 h2 => by rw [hS1]; exact Below.heap_setCell w1 _ _ q (by show q ≠ w.heap.size; omega)
  have HCC1 : Hid (CellsAt S1 w.heap.size a1.ar 33) := by rw [hS1]; exact HCS1.out
  have HDD1 : Hid (CellsAt S1 (w.heap.size + 1) noAtr.ar 33) := by rw [hS1]; exact (Below.heap_setCell w1 _ _ _ (by show w.heap.size + 1 ≠ w.heap.size; omega)).trans HD1.out
  have HBB1 : Hid (Below w.heap.size w S1) := by rw [hS1]; exact HB1.out.setCell (Nat.le_refl _) _
  have hsz1 : S1.heap.size = w1.heap.size := by rw [hS1]; simp [World.setCell]
  have HSZ1 := Lib.hid hsz1
  rw [← hS1]
  clear hS1 hsz1
  have HPs1 : Hid (SegsO S1 (w.heap.size + 1 + 1) (.slice A1 segs.length p1) segs) := HP1.out.keep HKP1.out
  clear HP1 HCS1 HC1 HD1 HB1 HKP1 c0 c1 c2 c3 c4 c5 c6 c7 c8 c9 c10 c11 c12 c13 c14 c15 ef
  obtain ⟨c0, c1, c2, c3, c4, c5, c6, c7, c8, c9, c10, c11, c12, c13, c14, c15⟩ := atr_cells HCC1.out
  rw [show a1.comms.length = a.comms.length by rw [HE1.out], show a1.mA = a.mA by rw [HE1.out], show a1.mC = a.mC by rw [HE1.out]] at c10
  have HRD1 : Hid (Rd S1 a.mA 1 (a.comms.map u1)) := (HA.out.below HBB1.out (Nat.le_refl _)).mrd
  go_wp2_with (with_reducible show wpList _ _ _ (_ :: _) _ _; refine wpList_own_u32 rfl (.tmp 11) (.tmp 13) rfl rfl a.mA a.mC a.comms rfl HRD1 hz1 ?_)
  intro A2 p2 w2 HN2 HG2
  have HM2 : Hid (OwnL w2 (w.heap.size + 1 + 1) 22 1 u1 (.slice A2 a.comms.length p2) a.comms) := OwnM.lower HN2.out (by rw [HSZ1.out]; exact HW1.out)
  have HW2 : Hid (w.heap.size + 1 + 1 ≤ w2.heap.size) := Nat.le_trans (by rw [HSZ1.out]; exact HW1.out) HG2.out.size
  have HP2 : Hid (SegsO w2 (w.heap.size + 1 + 1) (.slice A1 segs.length p1) segs) := HPs1.out.keep (fun q _ h2 => HG2.out.block q h2)
  have HC2 : Hid (CellsAt w2 w.heap.size a1.ar 33) := HCC1.out.below HG2.out HCC1.out.lt
  have HD2 : Hid (CellsAt w2 (w.heap.size + 1) noAtr.ar 33) := HDD1.out.below HG2.out HDD1.out.lt
  have HB2 : Hid (Below w.heap.size w w2) := HBB1.out.trans (HG2.out.mono HBB1.out.size)
  clear HPs1 HCC1 HDD1 HBB1 HG2 HN2 HRD1 HSZ1 HW1 c0 c1 c2 c3 c4 c5 c6 c7 c8 c9 c10 c11 c12 c13 c14 c15
  obtain ⟨c0, c1, c2, c3, c4, c5, c6, c7, c8, c9, c10, c11, c12, c13, c14, c15⟩ := atr_cells HC2.out
  have ef := HC2.out.unfrz 10
  obtain ⟨a2, ha2⟩ : ∃ b : Atr, b = { a1 with mA := A2, comms := a.comms, mC := p2 } := ⟨_, rfl⟩
  have HCS2 : Hid (CellsAt (w2.setCell ⟨w.heap.size, 10, none⟩ (.slice A2 a.comms.length p2)) w.heap.size a2.ar 33) := by
    have h := HC2.out.setAt 10 (.slice A2 a.comms.length p2)
    show CellsAt _ _ _ _
    rw [ha2]
    exact h
  have HE2 : Hid (a2 = { a with pA := A1, segs := segs, pC := p1, mA := A2, mC := p2 }) := by show _ = _; rw [ha2, HE1.out]
  clear ha2 HE1
  go_upto_region 6 with fail
  obtain ⟨S2, hS2⟩ : ∃ S, S = w2.setCell ⟨w.heap.size, 10, none⟩ (.slice A2 a.comms.length p2) := ⟨_, rfl⟩
  have HKP2 : Hid (∀ q, w.heap.size + 1 + 1 ≤ q → q < w2.heap.size → S2.heap[q]? = w2.heap[q]?) := fun q h1 h2 => by rw [hS2]; exact Below.heap_setCell w2 _ _ q (by show q ≠ w.heap.size; omega)
  have HCC2 : Hid (CellsAt S2 w.heap.size a2.ar 33) := by rw [hS2]; exact HCS2.out
  have HDD2 : Hid (CellsAt S2 (w.heap.size + 1) noAtr.ar 33) := by rw [hS2]; exact (Below.heap_setCell w2 _ _ _ (by show w.heap.size + 1 ≠ w.heap.size; omega)).trans HD2.out
  have HBB2 : Hid (Below w.heap.size w S2) := by rw [hS2]; exact HB2.out.setCell (Nat.le_refl _) _
  have hsz2 : S2.heap.size = w2.heap.size := by rw [hS2]; simp [World.setCell]
  have HSZ2 := Lib.hid hsz2
  rw [← hS2]
  clear hS2 hsz2
  have HPs2 : Hid (SegsO S2 (w.heap.size + 1 + 1) (.slice A1 segs.length p1) segs) := HP2.out.keep HKP2.out
  have HMs2 : Hid (OwnL S2 (w.heap.size + 1 + 1) 22 1 u1 (.slice A2 a.comms.length p2) a.comms) := HM2.out.keep HKP2.out
  clear HP2 HM2 HCS2 HC2 HD2 HB2 HKP2 c0 c1 c2 c3 c4 c5 c6 c7 c8 c9 c10 c11 c12 c13 c14 c15 ef
  obtain ⟨c0, c1, c2, c3, c4, c5, c6, c7, c8, c9, c10, c11, c12, c13, c14, c15⟩ := atr_cells HCC2.out
  rw [show a2.exts.length = a.exts.length by rw [HE2.out], show a2.xA = a.xA by rw [HE2.out], show a2.xC = a.xC by rw [HE2.out]] at c11
  have HRD2 : Hid (Rd S2 a.xA 1 (a.exts.map x1)) := (HA.out.below HBB2.out (Nat.le_refl _)).xrd
  go_wp2_with (with_reducible show wpList _ _ _ (_ :: _) _ _; refine wpList_own_u64 rfl (.tmp 16) (.tmp 18) rfl rfl a.xA a.xC a.exts rfl HRD2 hz2 ?_)
  intro A3 p3 w3 HN3 HG3
  have HX3 : Hid (OwnL w3 (w.heap.size + 1 + 1) 25 1 x1 (.slice A3 a.exts.length p3) a.exts) := OwnM.lower HN3.out (by rw [HSZ2.out]; exact HW2.out)
  have HW3 : Hid (w.heap.size + 1 + 1 ≤ w3.heap.size) := Nat.le_trans (by rw [HSZ2.out]; exact HW2.out) HG3.out.size
  have HP3 : Hid (SegsO w3 (w.heap.size + 1 + 1) (.slice A1 segs.length p1) segs) := HPs2.out.keep (fun q _ h2 => HG3.out.block q h2)
  have HM3 : Hid (OwnL w3 (w.heap.size + 1 + 1) 22 1 u1 (.slice A2 a.comms.length p2) a.comms) := HMs2.out.keep (fun q _ h2 => HG3.out.block q h2)
  have HC3 : Hid (CellsAt w3 w.heap.size a2.ar 33) := HCC2.out.below HG3.out HCC2.out.lt
  have HD3 : Hid (CellsAt w3 (w.heap.size + 1) noAtr.ar 33) := HDD2.out.below HG3.out HDD2.out.lt
  have HB3 : Hid (Below w.heap.size w w3) := HBB2.out.trans (HG3.out.mono HBB2.out.size)
  clear HPs2 HMs2 HCC2 HDD2 HBB2 HG3 HN3 HRD2 HSZ2 HW2 c0 c1 c2 c3 c4 c5 c6 c7 c8 c9 c10 c11 c12 c13 c14 c15
  obtain ⟨c0, c1, c2, c3, c4, c5, c6, c7, c8, c9, c10, c11, c12, c13, c14, c15⟩ := atr_cells HC3.out
  have ef := HC3.out.unfrz 11
  obtain ⟨a3, ha3⟩ : ∃ b : Atr, b = { a2 with xA := A3, exts := a.exts, xC := p3 } := ⟨_, rfl⟩
  have HCS3 : Hid (CellsAt (w3.setCell ⟨w.heap.size, 11, none⟩ (.slice A3 a.exts.length p3)) w.heap.size a3.ar 33) := by
    have h := HC3.out.setAt 11 (.slice A3 a.exts.length p3)
    show CellsAt _ _ _ _
    rw [ha3]
    exact h
  have HE3 : Hid (a3 = { a with pA := A1, segs := segs, pC := p1, mA := A2, mC := p2, xA := A3, xC := p3 }) := by show _ = _; rw [ha3, HE2.out]
  clear ha3 HE2
  go_upto_region 7 with fail
  obtain ⟨S3, hS3⟩ : ∃ S, S = w3.setCell ⟨w.heap.size, 11, none⟩ (.slice A3 a.exts.length p3) := ⟨_, rfl⟩
  have HKP3 : Hid (∀ q, w.heap.size + 1 + 1 ≤ q → q < w3.heap.size → S3.heap[q]? = w3.heap[q]?) := fun q h1 h2 => by rw [hS3]; exact Below.heap_setCell w3 _ _ q (by show q ≠ w.heap.size; omega)
  have HCC3 : Hid (CellsAt S3 w.heap.size a3.ar 33) := by rw [hS3]; exact HCS3.out
  have HDD3 : Hid (CellsAt S3 (w.heap.size + 1) noAtr.ar 33) := by rw [hS3]; exact (Below.heap_setCell w3 _ _ _ (by show w.heap.size + 1 ≠ w.heap.size; omega)).trans HD3.out
  have HBB3 : Hid (Below w.heap.size w S3) := by rw [hS3]; exact HB3.out.setCell (Nat.le_refl _) _
  have hsz3 : S3.heap.size = w3.heap.size := by rw [hS3]; simp [World.setCell]
  have HSZ3 := Lib.hid hsz3
  rw [← hS3]
  clear hS3 hsz3
  have HPs3 : Hid (SegsO S3 (w.heap.size + 1 + 1) (.slice A1 segs.length p1) segs) := HP3.out.keep HKP3.out
  have HMs3 : Hid (OwnL S3 (w.heap.size + 1 + 1) 22 1 u1 (.slice A2 a.comms.length p2) a.comms) := HM3.out.keep HKP3.out
  have HXs3 : Hid (OwnL S3 (w.heap.size + 1 + 1) 25 1 x1 (.slice A3 a.exts.length p3) a.exts) := HX3.out.keep HKP3.out
  clear HP3 HM3 HX3 HCS3 HC3 HD3 HB3 HKP3 c0 c1 c2 c3 c4 c5 c6 c7 c8 c9 c10 c11 c12 c13 c14 c15 ef
  obtain ⟨c0, c1, c2, c3, c4, c5, c6, c7, c8, c9, c10, c11, c12, c13, c14, c15⟩ := atr_cells HCC3.out
  rw [show a3.larges.length = a.larges.length by rw [HE3.out], show a3.lA = a.lA by rw [HE3.out], show a3.lC = a.lC by rw [HE3.out]] at c12
  have HRD3 : Hid (Rd S3 a.lA 3 (a.larges.map Lg.cs)) := (HA.out.below HBB3.out (Nat.le_refl _)).lrd
  go_wp2_with (with_reducible show wpList _ _ _ (_ :: _) _ _; refine wpList_own_lgs rfl (.tmp 21) (.tmp 23) rfl rfl a.lA a.lC a.larges rfl HRD3 hz3 ?_)
  intro A4 p4 w4 HN4 HG4
  have HL4 : Hid (OwnL w4 (w.heap.size + 1 + 1) 81 3 Lg.cs (.slice A4 a.larges.length p4) a.larges) := OwnM.lower HN4.out (by rw [HSZ3.out]; exact HW3.out)
  have HW4 : Hid (w.heap.size + 1 + 1 ≤ w4.heap.size) := Nat.le_trans (by rw [HSZ3.out]; exact HW3.out) HG4.out.size
  have HP4 : Hid (SegsO w4 (w.heap.size + 1 + 1) (.slice A1 segs.length p1) segs) := HPs3.out.keep (fun q _ h2 => HG4.out.block q h2)
  have HM4 : Hid (OwnL w4 (w.heap.size + 1 + 1) 22 1 u1 (.slice A2 a.comms.length p2) a.comms) := HMs3.out.keep (fun q _ h2 => HG4.out.block q h2)
  have HX4 : Hid (OwnL w4 (w.heap.size + 1 + 1) 25 1 x1 (.slice A3 a.exts.length p3) a.exts) := HXs3.out.keep (fun q _ h2 => HG4.out.block q h2)
  have HC4 : Hid (CellsAt w4 w.heap.size a3.ar 33) := HCC3.out.below HG4.out HCC3.out.lt
  have HD4 : Hid (CellsAt w4 (w.heap.size + 1) noAtr.ar 33) := HDD3.out.below HG4.out HDD3.out.lt
  have HB4 : Hid (Below w.heap.size w w4) := HBB3.out.trans (HG4.out.mono HBB3.out.size)
  clear HPs3 HMs3 HXs3 HCC3 HDD3 HBB3 HG4 HN4 HRD3 HSZ3 HW3 c0 c1 c2 c3 c4 c5 c6 c7 c8 c9 c10 c11 c12 c13 c14 c15
  obtain ⟨c0, c1, c2, c3, c4, c5, c6, c7, c8, c9, c10, c11, c12, c13, c14, c15⟩ := atr_cells HC4.out
  have ef := HC4.out.unfrz 12
  obtain ⟨a4, ha4⟩ : ∃ b : Atr, b = { a3 with lA := A4, larges := a.larges, lC := p4 } := ⟨_, rfl⟩
  have HCS4 : Hid (CellsAt (w4.setCell ⟨w.heap.size, 12, none⟩ (.slice A4 a.larges.length p4)) w.heap.size a4.ar 33) := by
    have h := HC4.out.setAt 12 (.slice A4 a.larges.length p4)
    show CellsAt _ _ _ _
    rw [ha4]
    exact h
  have HE4 : Hid (a4 = { a with pA := A1, segs := segs, pC := p1, mA := A2, mC := p2, xA := A3, xC := p3, lA := A4, lC := p4 }) := by show _ = _; rw [ha4, HE3.out]
  clear ha4 HE3
  go_upto_region 8 with fail
  obtain ⟨S4, hS4⟩ : ∃ S, S = w4.setCell ⟨w.heap.size, 12, none⟩ (.slice A4 a.larges.length p4) := ⟨_, rfl⟩
  have HKP4 : Hid (∀ q, w.heap.size + 1 + 1 ≤ q → q < w4.heap.size → S4.heap[q]? = w4.heap[q]?) := fun q h1 h2 => by rw [hS4]; exact Below.heap_setCell w4 _ _ q (by show q ≠ w.heap.size; omega)
  have HCC4 : Hid (CellsAt S4 w.heap.size a4.ar 33) := by rw [hS4]; exact HCS4.out
  have HDD4 : Hid (CellsAt S4 (w.heap.size + 1) noAtr.ar 33) := by rw [hS4]; exact (Below.heap_setCell w4 _ _ _ (by show w.heap.size + 1 ≠ w.heap.size; omega)).trans HD4.out
  have HBB4 : Hid (Below w.heap.size w S4) := by rw [hS4]; exact HB4.out.setCell (Nat.le_refl _) _
  have hsz4 : S4.heap.size = w4.heap.size := by rw [hS4]; simp [World.setCell]
  have HSZ4 := Lib.hid hsz4
  rw [← hS4]
  clear hS4 hsz4
  have HPs4 : Hid (SegsO S4 (w.heap.size + 1 + 1) (.slice A1 segs.length p1) segs) := HP4.out.keep HKP4.out
  have HMs4 : Hid (OwnL S4 (w.heap.size + 1 + 1) 22 1 u1 (.slice A2 a.comms.length p2) a.comms) := HM4.out.keep HKP4.out
  have HXs4 : Hid (OwnL S4 (w.heap.size + 1 + 1) 25 1 x1 (.slice A3 a.exts.length p3) a.exts) := HX4.out.keep HKP4.out
  have HLs4 : Hid (OwnL S4 (w.heap.size + 1 + 1) 81 3 Lg.cs (.slice A4 a.larges.length p4) a.larges) := HL4.out.keep HKP4.out
  clear HP4 HM4 HX4 HL4 HCS4 HC4 HD4 HB4 HKP4 c0 c1 c2 c3 c4 c5 c6 c7 c8 c9 c10 c11 c12 c13 c14 c15 ef
  obtain ⟨c0, c1, c2, c3, c4, c5, c6, c7, c8, c9, c10, c11, c12, c13, c14, c15⟩ := atr_cells HCC4.out
  rw [show a4.clus.length = a.clus.length by rw [HE4.out], show a4.kA = a.kA by rw [HE4.out], show a4.kC = a.kC by rw [HE4.out]] at c15
  have HRD4 : Hid (Rd S4 a.kA 1 (a.clus.map u1)) := (HA.out.below HBB4.out (Nat.le_refl _)).krd
  go_wp2_with (with_reducible show wpList _ _ _ (_ :: _) _ _; refine wpList_own_u32 rfl (.tmp 26) (.tmp 28) rfl rfl a.kA a.kC a.clus rfl HRD4 hz4 ?_)
  intro A5 p5 w5 HN5 HG5
  have HK5 : Hid (OwnL w5 (w.heap.size + 1 + 1) 22 1 u1 (.slice A5 a.clus.length p5) a.clus) := OwnM.lower HN5.out (by rw [HSZ4.out]; exact HW4.out)
  have HW5 : Hid (w.heap.size + 1 + 1 ≤ w5.heap.size) := Nat.le_trans (by rw [HSZ4.out]; exact HW4.out) HG5.out.size
  have HP5 : Hid (SegsO w5 (w.heap.size + 1 + 1) (.slice A1 segs.length p1) segs) := HPs4.out.keep (fun q _ h2 => HG5.out.block q h2)
  have HM5 : Hid (OwnL w5 (w.heap.size + 1 + 1) 22 1 u1 (.slice A2 a.comms.length p2) a.comms) := HMs4.out.keep (fun q _ h2 => HG5.out.block q h2)
  have HX5 : Hid (OwnL w5 (w.heap.size + 1 + 1) 25 1 x1 (.slice A3 a.exts.length p3) a.exts) := HXs4.out.keep (fun q _ h2 => HG5.out.block q h2)
  have HL5 : Hid (OwnL w5 (w.heap.size + 1 + 1) 81 3 Lg.cs (.slice A4 a.larges.length p4) a.larges) := HLs4.out.keep (fun q _ h2 => HG5.out.block q h2)
  have HC5 : Hid (CellsAt w5 w.heap.size a4.ar 33) := HCC4.out.below HG5.out HCC4.out.lt
  have HD5 : Hid (CellsAt w5 (w.heap.size + 1) noAtr.ar 33) := HDD4.out.below HG5.out HDD4.out.lt
  have HB5 : Hid (Below w.heap.size w w5) := HBB4.out.trans (HG5.out.mono HBB4.out.size)
  clear HPs4 HMs4 HXs4 HLs4 HCC4 HDD4 HBB4 HG5 HN5 HRD4 HSZ4 HW4 c0 c1 c2 c3 c4 c5 c6 c7 c8 c9 c10 c11 c12 c13 c14 c15
  obtain ⟨c0, c1, c2, c3, c4, c5, c6, c7, c8, c9, c10, c11, c12, c13, c14, c15⟩ := atr_cells HC5.out
  have ef := HC5.out.unfrz 15
  obtain ⟨a5, ha5⟩ : ∃ b : Atr, b = { a4 with kA := A5, clus := a.clus, kC := p5 } := ⟨_, rfl⟩
  have HCS5 : Hid (CellsAt (w5.setCell ⟨w.heap.size, 15, none⟩ (.slice A5 a.clus.length p5)) w.heap.size a5.ar 33) := by
    have h := HC5.out.setAt 15 (.slice A5 a.clus.length p5)
    show CellsAt _ _ _ _
    rw [ha5]
    exact h
  have HE5 : Hid (a5 = { a with pA := A1, segs := segs, pC := p1, mA := A2, mC := p2, xA := A3, xC := p3, lA := A4, lC := p4, kA := A5, kC := p5 }) := by show _ = _; rw [ha5, HE4.out]
  clear ha5 HE4
  go_upto_region 9 with fail
  obtain ⟨S5, hS5⟩ : ∃ S, S = w5.setCell ⟨w.heap.size, 15, none⟩ (.slice A5 a.clus.length p5) := ⟨_, rfl⟩
  have HKP5 : Hid (∀ q, w.heap.size + 1 + 1 ≤ q → q < w5.heap.size → S5.heap[q]? = w5.heap[q]?) := fun q h1 h2 => by rw [hS5]; exact Below.heap_setCell w5 _ _ q (by show q ≠ w.heap.size; omega)
  have HCC5 : Hid (CellsAt S5 w.heap.size a5.ar 33) := by rw [hS5]; exact HCS5.out
  have HDD5 : Hid (CellsAt S5 (w.heap.size + 1) noAtr.ar 33) := by rw [hS5]; exact (Below.heap_setCell w5 _ _ _ (by show w.heap.size + 1 ≠ w.heap.size; omega)).trans HD5.out
  have HBB5 : Hid (Below w.heap.size w S5) := by rw [hS5]; exact HB5.out.setCell (Nat.le_refl _) _
  rw [← hS5]
  clear hS5
  have HPs5 : Hid (SegsO S5 (w.heap.size + 1 + 1) (.slice A1 segs.length p1) segs) := HP5.out.keep HKP5.out
  have HMs5 : Hid (OwnL S5 (w.heap.size + 1 + 1) 22 1 u1 (.slice A2 a.comms.length p2) a.comms) := HM5.out.keep HKP5.out
  have HXs5 : Hid (OwnL S5 (w.heap.size + 1 + 1) 25 1 x1 (.slice A3 a.exts.length p3) a.exts) := HX5.out.keep HKP5.out
  have HLs5 : Hid (OwnL S5 (w.heap.size + 1 + 1) 81 3 Lg.cs (.slice A4 a.larges.length p4) a.larges) := HL5.out.keep HKP5.out
  have HKs5 : Hid (OwnL S5 (w.heap.size + 1 + 1) 22 1 u1 (.slice A5 a.clus.length p5) a.clus) := HK5.out.keep HKP5.out
  clear HP5 HM5 HX5 HL5 HK5 HCS5 HC5 HD5 HB5 HKP5 c0 c1 c2 c3 c4 c5 c6 c7 c8 c9 c10 c11 c12 c13 c14 c15 ef
  have HAT : Hid (AtO S5 (w.heap.size + 1 + 1) a5) := by
    show AtO _ _ _
    rw [HE5.out]
    exact {
      path := HPs5.out
      comms := HMs5.out
      exts := HXs5.out
      larges := HLs5.out
      clus := HKs5.out
      next := HA.out.next
      mfit := HA.out.mfit
      xfit := HA.out.xfit
      lfit := HA.out.lfit
      kfit := HA.out.kfit
      ofit := HA.out.ofit
      nfit := HA.out.nfit }
  have HEC : Hid (a5.c = a.c) := by
    show _ = _
    rw [HE5.out]
    unfold Atr.c
    rw [← HSC.out]
  clear HPs5 HMs5 HXs5 HLs5 HKs5 HE5 HSC HSL
  go_wp2_with (with_reducible show wpList _ _ _ (_ :: _) _ _; first | refine wpList_load_attrs rfl (.tmp 1) rfl w.heap.size rfl a5 HCC5.out ?_ | refine wpList_store_attrs rfl (.tmp 2) (.tmp 31) rfl (w.heap.size + 1) rfl a5 (by kernel_rfl) noAtr HDD5.out ?_)
  try simp only [Exit.inBlock, Exit.then]
  have HG := Lib.hid (grown_row S5 (w.heap.size + 1) a5.ar)
  refine bodyPost_ret (results_attrs rfl _ _ (w.heap.size + 1) a5 rfl (HDD5.out.setRow' _)) rfl ⟨⟨a5, rfl, ?_, HEC.out⟩, ?_⟩
  · exact (HAT.out.keep (fun q h1 h2 => HG.out.block q h2 (fun e => by injection e with e; omega))).lower' (by omega)
  · exact HBB5.out.grown HG.out HBB5.out.size (fun q hq => by cases hq; omega)
end Go.Proofs.YtojiieghjhjoaaaGreat
