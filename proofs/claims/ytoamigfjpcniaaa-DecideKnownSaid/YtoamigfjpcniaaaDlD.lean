/-
  The document's Loops walked. Conditions: sizes.
-/
import Derived.Test.YtoamigfjpcniaaaDlC
set_option linter.unusedVariables false
set_option linter.unusedSimpArgs false
namespace Go.Proofs.Ytoamigfjpcniaaa
open Go.RowKit Go.MapKept Go.Shelf
open Go.Lib hiding intOf

set_option maxRecDepth 100000 in
set_option maxHeartbeats 4000000 in
theorem rloops_any (asn id confed cluster : Int) (p : Pt) (w : World) (h : PtOk w p) (hsz : (flatL p.segs).length ≤ 1048576) (hl2 : p.segs.length ≤ 1048576) :
    Calls Try.prog 29 #[.agg (cfgC asn id confed cluster), p.v] w fun e w' => e = .returned (.bool (loopsF asn id confed cluster p)) ∧ Below w.heap.size w w' := by
  have HOK := Lib.hid h
  clear h
  have HC0 : Hid (CellsAt ((w.alloc (.cells (cfgC asn id confed cluster) 68)).alloc (.cells p.cs 38)) w.heap.size (cfgC asn id confed cluster) 68) := (CellsAt.new _ _ _).alloc _
  have HC1 : Hid (CellsAt ((w.alloc (.cells (cfgC asn id confed cluster) 68)).alloc (.cells p.cs 38)) (w.heap.size + 1) p.cs 38) := by
    have h := CellsAt.new (w.alloc (.cells (cfgC asn id confed cluster) 68)) p.cs 38
    rwa [show (w.alloc (.cells (cfgC asn id confed cluster) 68)).heap.size = w.heap.size + 1 by simp] at h
  have HB1 : Hid (Below w.heap.size w ((w.alloc (.cells (cfgC asn id confed cluster) 68)).alloc (.cells p.cs 38))) := ((Below.refl _ _).alloc (Nat.le_refl _) _).alloc (by simp) _
  have l22 := (HC1.out.c 22).trans (show p.cs[22]? = some (.int .i64 p.kind) from by kernel_rfl)
  by_cases hk : p.kind = 1
  · have HL : Hid (loopsF asn id confed cluster p = false) := by
      show _ = _
      unfold loopsF
      rw [if_pos hk]
    have q1 : (p.kind == 1) = true := by rw [hk]; rfl
    clear hk
    rw [Pt.v_cs]
    go_enter Try.func29, Try.ntmps29
    go_wp2_with fail
    go_ret
    exact ⟨by rw [HL.out]; rfl, HB1.out⟩
  · have HL : Hid (loopsF asn id confed cluster p = (hasS p.segs asn || ((decide (0 < confed) && hasS p.segs confed) || ((p.hasOrig && p.orig == id) || hasN p.clus (orF cluster id))))) := by
      show _ = _
      unfold loopsF
      rw [if_neg hk]
      cases hasN p.clus (orF cluster id) <;> cases hasS p.segs asn <;> cases (decide (0 < confed) && hasS p.segs confed) <;> cases (p.hasOrig && p.orig == id) <;> rfl
    have q1 : (p.kind == 1) = false := beq_eq_false_iff_ne.2 hk
    have HPB := Lib.hid (fun n W2 (h : PtOk W2 p) => has04_any p.pA p.pC p.segs n W2 h.rd h.segs h.len h.cap hsz hl2)
    have HCB := Lib.hid (fun n W2 (h : PtOk W2 p) => has05_any p.cA p.cC p.clus n W2 h.crd h.clen h.ccap)
    have HN : Hid (orF cluster id = if cluster = 0 then id else cluster) := rfl
    have HOK0 : Hid (PtOk ((w.alloc (.cells (cfgC asn id confed cluster) 68)).alloc (.cells p.cs 38)) p) := HOK.out.below HB1.out (Nat.le_refl _)
    have g0 := (HC0.out.c 0).trans (show (cfgC asn id confed cluster)[0]? = some (.int .u32 asn) from rfl)
    have g1 := (HC0.out.c 1).trans (show (cfgC asn id confed cluster)[1]? = some (.int .u32 id) from rfl)
    have g4 := (HC0.out.c 4).trans (show (cfgC asn id confed cluster)[4]? = some (.int .u32 cluster) from rfl)
    have a7 := (HC1.out.c 7).trans (show p.cs[7]? = some (.slice p.pA p.segs.length p.pC) from by kernel_rfl)
    clear hk hsz hl2 HOK
    rw [Pt.v_cs]
    have HT : Hid (cluster = 0 ∨ cluster ≠ 0) := Classical.em _
    rcases HT.out with hc0 | hc0
    · have q2 : (cluster == 0) = true := by rw [hc0]; rfl
      rw [HN.out, if_pos hc0] at HL
      clear hc0
      go_enter Try.func29, Try.ntmps29
      go_wp2_with fail
      refine (HPB.out asn _ HOK0.out).mono ?_
      rintro e w2 ⟨rfl, hbw2⟩
      have HBW2 : Hid (Below w.heap.size w w2) := HB1.out.trans (hbw2.mono HB1.out.size)
      have HC0w2 : Hid (CellsAt w2 w.heap.size (cfgC asn id confed cluster) 68) := HC0.out.below hbw2 HC0.out.lt
      have HC1w2 : Hid (CellsAt w2 (w.heap.size + 1) p.cs 38) := HC1.out.below hbw2 HC1.out.lt
      have HOKw2 : Hid (PtOk w2 p) := HOK0.out.below hbw2 (Nat.le_refl _)
      have g1w2 := (HC0w2.out.c 1).trans (show (cfgC asn id confed cluster)[1]? = some (.int .u32 id) from rfl)
      have g2w2 := (HC0w2.out.c 2).trans (show (cfgC asn id confed cluster)[2]? = some (.int .u32 confed) from rfl)
      have a7w2 := (HC1w2.out.c 7).trans (show p.cs[7]? = some (.slice p.pA p.segs.length p.pC) from by kernel_rfl)
      have a19w2 := (HC1w2.out.c 19).trans (show p.cs[19]? = some (.bool p.hasOrig) from by kernel_rfl)
      have a20w2 := (HC1w2.out.c 20).trans (show p.cs[20]? = some (.int .u32 p.orig) from by kernel_rfl)
      have a21w2 := (HC1w2.out.c 21).trans (show p.cs[21]? = some (.slice p.cA p.clus.length p.cC) from by kernel_rfl)
      clear hbw2 g0 g1 g4 a7 l22
      cases hh1 : hasS p.segs asn with
      | true =>
        rw [hh1] at HL
        clear hh1
        go_wp2_with fail
        go_ret
        exact ⟨by rw [HL.out]; rfl, HBW2.out⟩
      | false =>
        rw [hh1] at HL
        clear hh1
        by_cases hcf : 0 < confed
        · rw [decide_eq_true hcf] at HL
          go_wp2_with fail
          refine (HPB.out confed _ HOKw2.out).mono ?_
          rintro e w3 ⟨rfl, hbw3⟩
          have HBW3 : Hid (Below w.heap.size w w3) := HBW2.out.trans (hbw3.mono HBW2.out.size)
          have HC0w3 : Hid (CellsAt w3 w.heap.size (cfgC asn id confed cluster) 68) := HC0w2.out.below hbw3 HC0w2.out.lt
          have HC1w3 : Hid (CellsAt w3 (w.heap.size + 1) p.cs 38) := HC1w2.out.below hbw3 HC1w2.out.lt
          have HOKw3 : Hid (PtOk w3 p) := HOKw2.out.below hbw3 (Nat.le_refl _)
          have g1w3 := (HC0w3.out.c 1).trans (show (cfgC asn id confed cluster)[1]? = some (.int .u32 id) from rfl)
          have g2w3 := (HC0w3.out.c 2).trans (show (cfgC asn id confed cluster)[2]? = some (.int .u32 confed) from rfl)
          have a7w3 := (HC1w3.out.c 7).trans (show p.cs[7]? = some (.slice p.pA p.segs.length p.pC) from by kernel_rfl)
          have a19w3 := (HC1w3.out.c 19).trans (show p.cs[19]? = some (.bool p.hasOrig) from by kernel_rfl)
          have a20w3 := (HC1w3.out.c 20).trans (show p.cs[20]? = some (.int .u32 p.orig) from by kernel_rfl)
          have a21w3 := (HC1w3.out.c 21).trans (show p.cs[21]? = some (.slice p.cA p.clus.length p.cC) from by kernel_rfl)
          clear hbw3 g1w2 g2w2 a7w2 a19w2 a20w2 a21w2
          cases hh2 : hasS p.segs confed with
          | true =>
            rw [hh2] at HL
            clear hh2
            go_wp2_with fail
            go_ret
            exact ⟨by rw [HL.out]; rfl, HBW3.out⟩
          | false =>
            rw [hh2] at HL
            clear hh2
            cases ho : p.hasOrig with
            | true =>
              rw [ho] at HL a19w3
              clear ho
              cases hq : (p.orig == id) with
              | true =>
                rw [hq] at HL
                go_wp2_with fail
                go_ret
                exact ⟨by rw [HL.out]; rfl, HBW3.out⟩
              | false =>
                rw [hq] at HL
                go_wp2_with fail
                refine (HCB.out id _ HOKw3.out).mono ?_
                rintro e wc ⟨rfl, hwc⟩
                rw [hwc]
                clear hwc
                go_wp2_with fail
                go_ret
                exact ⟨by rw [HL.out]; rfl, HBW3.out⟩
            | false =>
              rw [ho] at HL a19w3
              clear ho
              go_wp2_with fail
              refine (HCB.out id _ HOKw3.out).mono ?_
              rintro e wc ⟨rfl, hwc⟩
              rw [hwc]
              clear hwc
              go_wp2_with fail
              go_ret
              exact ⟨by rw [HL.out]; rfl, HBW3.out⟩
        · rw [decide_eq_false hcf] at HL
          cases ho : p.hasOrig with
          | true =>
            rw [ho] at HL a19w2
            clear ho
            cases hq : (p.orig == id) with
            | true =>
              rw [hq] at HL
              go_wp2_with fail
              go_ret
              exact ⟨by rw [HL.out]; rfl, HBW2.out⟩
            | false =>
              rw [hq] at HL
              go_wp2_with fail
              refine (HCB.out id _ HOKw2.out).mono ?_
              rintro e wc ⟨rfl, hwc⟩
              rw [hwc]
              clear hwc
              go_wp2_with fail
              go_ret
              exact ⟨by rw [HL.out]; rfl, HBW2.out⟩
          | false =>
            rw [ho] at HL a19w2
            clear ho
            go_wp2_with fail
            refine (HCB.out id _ HOKw2.out).mono ?_
            rintro e wc ⟨rfl, hwc⟩
            rw [hwc]
            clear hwc
            go_wp2_with fail
            go_ret
            exact ⟨by rw [HL.out]; rfl, HBW2.out⟩
    · have q2 : (cluster == 0) = false := beq_eq_false_iff_ne.2 hc0
      rw [HN.out, if_neg hc0] at HL
      clear hc0
      go_enter Try.func29, Try.ntmps29
      go_wp2_with fail
      refine (HPB.out asn _ HOK0.out).mono ?_
      rintro e w2 ⟨rfl, hbw2⟩
      have HBW2 : Hid (Below w.heap.size w w2) := HB1.out.trans (hbw2.mono HB1.out.size)
      have HC0w2 : Hid (CellsAt w2 w.heap.size (cfgC asn id confed cluster) 68) := HC0.out.below hbw2 HC0.out.lt
      have HC1w2 : Hid (CellsAt w2 (w.heap.size + 1) p.cs 38) := HC1.out.below hbw2 HC1.out.lt
      have HOKw2 : Hid (PtOk w2 p) := HOK0.out.below hbw2 (Nat.le_refl _)
      have g1w2 := (HC0w2.out.c 1).trans (show (cfgC asn id confed cluster)[1]? = some (.int .u32 id) from rfl)
      have g2w2 := (HC0w2.out.c 2).trans (show (cfgC asn id confed cluster)[2]? = some (.int .u32 confed) from rfl)
      have a7w2 := (HC1w2.out.c 7).trans (show p.cs[7]? = some (.slice p.pA p.segs.length p.pC) from by kernel_rfl)
      have a19w2 := (HC1w2.out.c 19).trans (show p.cs[19]? = some (.bool p.hasOrig) from by kernel_rfl)
      have a20w2 := (HC1w2.out.c 20).trans (show p.cs[20]? = some (.int .u32 p.orig) from by kernel_rfl)
      have a21w2 := (HC1w2.out.c 21).trans (show p.cs[21]? = some (.slice p.cA p.clus.length p.cC) from by kernel_rfl)
      clear hbw2 g0 g1 g4 a7 l22
      cases hh1 : hasS p.segs asn with
      | true =>
        rw [hh1] at HL
        clear hh1
        go_wp2_with fail
        go_ret
        exact ⟨by rw [HL.out]; rfl, HBW2.out⟩
      | false =>
        rw [hh1] at HL
        clear hh1
        by_cases hcf : 0 < confed
        · rw [decide_eq_true hcf] at HL
          go_wp2_with fail
          refine (HPB.out confed _ HOKw2.out).mono ?_
          rintro e w3 ⟨rfl, hbw3⟩
          have HBW3 : Hid (Below w.heap.size w w3) := HBW2.out.trans (hbw3.mono HBW2.out.size)
          have HC0w3 : Hid (CellsAt w3 w.heap.size (cfgC asn id confed cluster) 68) := HC0w2.out.below hbw3 HC0w2.out.lt
          have HC1w3 : Hid (CellsAt w3 (w.heap.size + 1) p.cs 38) := HC1w2.out.below hbw3 HC1w2.out.lt
          have HOKw3 : Hid (PtOk w3 p) := HOKw2.out.below hbw3 (Nat.le_refl _)
          have g1w3 := (HC0w3.out.c 1).trans (show (cfgC asn id confed cluster)[1]? = some (.int .u32 id) from rfl)
          have g2w3 := (HC0w3.out.c 2).trans (show (cfgC asn id confed cluster)[2]? = some (.int .u32 confed) from rfl)
          have a7w3 := (HC1w3.out.c 7).trans (show p.cs[7]? = some (.slice p.pA p.segs.length p.pC) from by kernel_rfl)
          have a19w3 := (HC1w3.out.c 19).trans (show p.cs[19]? = some (.bool p.hasOrig) from by kernel_rfl)
          have a20w3 := (HC1w3.out.c 20).trans (show p.cs[20]? = some (.int .u32 p.orig) from by kernel_rfl)
          have a21w3 := (HC1w3.out.c 21).trans (show p.cs[21]? = some (.slice p.cA p.clus.length p.cC) from by kernel_rfl)
          clear hbw3 g1w2 g2w2 a7w2 a19w2 a20w2 a21w2
          cases hh2 : hasS p.segs confed with
          | true =>
            rw [hh2] at HL
            clear hh2
            go_wp2_with fail
            go_ret
            exact ⟨by rw [HL.out]; rfl, HBW3.out⟩
          | false =>
            rw [hh2] at HL
            clear hh2
            cases ho : p.hasOrig with
            | true =>
              rw [ho] at HL a19w3
              clear ho
              cases hq : (p.orig == id) with
              | true =>
                rw [hq] at HL
                go_wp2_with fail
                go_ret
                exact ⟨by rw [HL.out]; rfl, HBW3.out⟩
              | false =>
                rw [hq] at HL
                go_wp2_with fail
                refine (HCB.out cluster _ HOKw3.out).mono ?_
                rintro e wc ⟨rfl, hwc⟩
                rw [hwc]
                clear hwc
                go_wp2_with fail
                go_ret
                exact ⟨by rw [HL.out]; rfl, HBW3.out⟩
            | false =>
              rw [ho] at HL a19w3
              clear ho
              go_wp2_with fail
              refine (HCB.out cluster _ HOKw3.out).mono ?_
              rintro e wc ⟨rfl, hwc⟩
              rw [hwc]
              clear hwc
              go_wp2_with fail
              go_ret
              exact ⟨by rw [HL.out]; rfl, HBW3.out⟩
        · rw [decide_eq_false hcf] at HL
          cases ho : p.hasOrig with
          | true =>
            rw [ho] at HL a19w2
            clear ho
            cases hq : (p.orig == id) with
            | true =>
              rw [hq] at HL
              go_wp2_with fail
              go_ret
              exact ⟨by rw [HL.out]; rfl, HBW2.out⟩
            | false =>
              rw [hq] at HL
              go_wp2_with fail
              refine (HCB.out cluster _ HOKw2.out).mono ?_
              rintro e wc ⟨rfl, hwc⟩
              rw [hwc]
              clear hwc
              go_wp2_with fail
              go_ret
              exact ⟨by rw [HL.out]; rfl, HBW2.out⟩
          | false =>
            rw [ho] at HL a19w2
            clear ho
            go_wp2_with fail
            refine (HCB.out cluster _ HOKw2.out).mono ?_
            rintro e wc ⟨rfl, hwc⟩
            rw [hwc]
            clear hwc
            go_wp2_with fail
            go_ret
            exact ⟨by rw [HL.out]; rfl, HBW2.out⟩
end Go.Proofs.Ytoamigfjpcniaaa
