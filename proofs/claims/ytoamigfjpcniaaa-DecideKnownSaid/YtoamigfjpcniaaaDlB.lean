/-
  Was a path here already: decide.Loops walked. Conditions: sizes.
-/
import Derived.Test.YtoamigfjpcniaaaDlA
import Derived.Test.YtoamigfjpcniaaaDeP
set_option linter.unusedVariables false
set_option linter.unusedSimpArgs false
namespace Go.Proofs.Ytoamigfjpcniaaa
open Go.RowKit Go.MapKept Go.Shelf
open Go.Lib hiding intOf

/-- a path's attributes -/
def Pt.as (p : Pt) : Array Value := #[.int .i64 p.origin, (.slice p.pA p.segs.length p.pC), .string p.next, .bool p.hasMed, .int .u32 p.med, .bool p.hasPref, .int .u32 p.pref, .bool p.atomic, .int .u32 p.aggAs, .int .u32 p.aggId, p.comms, p.exts, p.larges, .bool p.hasOrig, .int .u32 p.orig, (.slice p.cA p.clus.length p.cC)]
theorem attrs_size : (Try.prog.info? 34).map (·.size) = some 16 := by kernel_rfl
theorem attrs_under : ∃ fs, Try.prog.underlying 34 = some (.struct fs) := ⟨_, Try.underlying34⟩
theorem attrs_in (p : Pt) (j : Nat) (h : j < 16) : p.as[j]? = p.cs[6 + j]? := by
  rcases (show j = 0 ∨ j = 1 ∨ j = 2 ∨ j = 3 ∨ j = 4 ∨ j = 5 ∨ j = 6 ∨ j = 7 ∨ j = 8 ∨ j = 9 ∨ j = 10 ∨ j = 11 ∨ j = 12 ∨ j = 13 ∨ j = 14 ∨ j = 15 by omega) with rfl | rfl | rfl | rfl | rfl | rfl | rfl | rfl | rfl | rfl | rfl | rfl | rfl | rfl | rfl | rfl <;> rfl
theorem attrs_range {w : World} {b off : Nat} {p : Pt} (h : w.rangeAt b off p.cs.toList) : w.rangeAt b (off + 6) p.as.toList := fun j v hv => by
  have hj : j < 16 := (List.getElem?_eq_some_iff.1 hv).1
  rw [Array.getElem?_toList, attrs_in p j hj] at hv
  rw [show off + 6 + j = off + (6 + j) by omega]
  exact h (6 + j) v (by rwa [Array.getElem?_toList])
theorem PtOk.aones {w : World} {p : Pt} (h : PtOk w p) : ∀ u ∈ p.as.toList, u.oneCell' = true := fun u hu => by
  obtain ⟨j, hj, rfl⟩ := List.mem_iff_getElem.1 hu
  have h1 : p.as.toList[j]? = some p.as.toList[j] := List.getElem?_eq_getElem hj
  rw [Array.getElem?_toList, attrs_in p j hj] at h1
  refine PtOk.ones (x := ⟨p, 0, 0⟩) h _ ?_
  rw [path_in]
  exact List.mem_append_left _ (List.mem_of_getElem? (by rw [Array.getElem?_toList]; exact h1))
section
variable {ops : Array Oper} {rest : List Oper} {op : Oper} {a : Act} {w : World} {Q : Exit → Act → World → Prop}
theorem wpList_load_attrs (hgd : op.guard = none) (src : Operand) (ho : op.op = .load 34 src) (b off : Nat) (hx : a.eval src = .pointer (some ⟨b, off, none⟩)) (p : Pt) (hc : w.rangeAt b off p.as.toList)
    (h : wpList Try.prog ops Q rest (a.put op.dst (.agg p.as)) w) : wpList Try.prog ops Q (op :: rest) a w := by
  obtain ⟨fs, hu⟩ := attrs_under
  exact wpList_load_mid hgd 34 src ho b off hx p.as.toList _ hc hu rfl (by rw [attrs_size]; rfl) h
theorem wpList_store_attrs {Z : Array Value} (n : Nat) (hn : w.heap.size = n) (hgd : op.guard = none) (x y : Operand) (ho : op.op = .store 34 x y) (hx : a.eval x = .pointer (some ⟨n, 0, none⟩)) (p : Pt) (hy : a.eval y = .agg p.as)
    (hZ : Z.size = 16) (h1 : ∀ u ∈ p.as.toList, u.oneCell' = true) (h : wpList Try.prog ops Q rest (a.put op.dst undef) (w.alloc (.cells p.as 34))) : wpList Try.prog ops Q (op :: rest) a (w.alloc (.cells Z 34)) := by
  subst hn
  exact wpList_store_new hgd x y ho hx hy (by rw [attrs_size]; rfl) hZ (by have := all_oneCell_toArray h1; rwa [Array.toArray_toList] at this) h
end
/-- a configuration of four numbers -/
abbrev cfgC (asn id confed cluster : Int) : Array Value := #[.int .u32 asn, .int .u32 id, .int .u32 confed, .slice none 0 0, .int .u32 cluster, .string ⟨#[]⟩, .int .u32 0, .int .u32 0, .slice none 0 0, .slice none 0 0, .slice none 0 0, .slice none 0 0, .slice none 0 0]
def loopsF (asn id confed cluster : Int) (p : Pt) : Bool := if p.kind = 1 then false else (hasN p.clus (orF cluster id) || (hasS p.segs asn || (decide (0 < confed) && hasS p.segs confed) || (p.hasOrig && p.orig == id)))
set_option maxRecDepth 100000 in
set_option maxHeartbeats 4000000 in
theorem loops_any (asn id confed cluster : Int) (p : Pt) (w : World) (h : PtOk w p) :
    Calls Try.prog 28 #[.agg (cfgC asn id confed cluster), p.v] w fun e w' => e = .returned (.bool (loopsF asn id confed cluster p)) ∧ Below w.heap.size w w' := by
  have HOK := Lib.hid h
  have HAO := Lib.hid (PtOk.aones h)
  clear h
  have HC0 : Hid (CellsAt ((w.alloc (.cells (cfgC asn id confed cluster) 68)).alloc (.cells p.cs 38)) w.heap.size (cfgC asn id confed cluster) 68) := (CellsAt.new _ _ _).alloc _
  have HC1 : Hid (CellsAt ((w.alloc (.cells (cfgC asn id confed cluster) 68)).alloc (.cells p.cs 38)) (w.heap.size + 1) p.cs 38) := by
    have h := CellsAt.new (w.alloc (.cells (cfgC asn id confed cluster) 68)) p.cs 38
    rwa [show (w.alloc (.cells (cfgC asn id confed cluster) 68)).heap.size = w.heap.size + 1 by simp] at h
  have HB1 : Hid (Below w.heap.size w ((w.alloc (.cells (cfgC asn id confed cluster) 68)).alloc (.cells p.cs 38))) := ((Below.refl _ _).alloc (Nat.le_refl _) _).alloc (by simp) _
  have l22 := (HC1.out.c 22).trans (show p.cs[22]? = some (.int .i64 p.kind) from by kernel_rfl)
  by_cases hk : p.kind = 1
  · have HL : Hid (loopsF asn id confed cluster p = false) := by
      show _ = _
      unfold loopsF
      rw [if_pos hk]
    have q1 : (p.kind == 1) = true := by rw [hk]; rfl
    clear hk
    rw [Pt.v_cs]
    go_enter Try.func28, Try.ntmps28
    go_wp2_with fail
    go_ret
    exact ⟨by rw [HL.out]; rfl, HB1.out⟩
  · have HL : Hid (loopsF asn id confed cluster p = (hasN p.clus (orF cluster id) || (hasS p.segs asn || (decide (0 < confed) && hasS p.segs confed) || (p.hasOrig && p.orig == id)))) := by
      show _ = _
      unfold loopsF
      rw [if_neg hk]
    have q1 : (p.kind == 1) = false := beq_eq_false_iff_ne.2 hk
    have HC2 : Hid (CellsAt (((w.alloc (.cells (cfgC asn id confed cluster) 68)).alloc (.cells p.cs 38)).alloc (.cells p.as 34)) (w.heap.size + 1 + 1) p.as 34) := by
      have h := CellsAt.new ((w.alloc (.cells (cfgC asn id confed cluster) 68)).alloc (.cells p.cs 38)) p.as 34
      rwa [show ((w.alloc (.cells (cfgC asn id confed cluster) 68)).alloc (.cells p.cs 38)).heap.size = w.heap.size + 1 + 1 by simp] at h
    have HOR := Lib.hid or32_any
    clear hk
    rw [Pt.v_cs]
    go_enter Try.func28, Try.ntmps28
    go_wp2_with (with_reducible show wpList _ _ _ (_ :: _) _ _; first | refine wpList_load_attrs rfl (.tmp 13) rfl (w.heap.size + 1) 6 rfl p (Hid.out ?hr) ?_ | refine wpList_store_attrs (w.heap.size + 1 + 1) (by simp) rfl (.tmp 5) (.tmp 14) rfl rfl p rfl rfl HAO.out ?_)
    case hr =>
      have h := attrs_range HC1.out.range
      rwa [Nat.zero_add] at h
    have HB2 : Hid (Below w.heap.size w (((w.alloc (.cells (cfgC asn id confed cluster) 68)).alloc (.cells p.cs 38)).alloc (.cells p.as 34))) := HB1.out.alloc (by simp; omega) _
    have HC3 : Hid (CellsAt (((w.alloc (.cells (cfgC asn id confed cluster) 68)).alloc (.cells p.cs 38)).alloc (.cells p.as 34)) w.heap.size (cfgC asn id confed cluster) 68) := HC0.out.alloc _
    have HWS : Hid ((((w.alloc (.cells (cfgC asn id confed cluster) 68)).alloc (.cells p.cs 38)).alloc (.cells p.as 34)).heap.size = w.heap.size + 1 + 1 + 1) := by
      show _ = _
      simp
    generalize ((w.alloc (.cells (cfgC asn id confed cluster) 68)).alloc (.cells p.cs 38)).alloc (.cells p.as 34) = W at HC2 HC3 HB2 HWS ⊢
    clear HC0 HC1 HB1 HAO l22 q1
    have HCN : Hid (CellsAt (W.alloc (.cells #[.int .u32 cluster, .int .u32 id] 28)) (w.heap.size + 1 + 1 + 1) #[.int .u32 cluster, .int .u32 id] 28) := by
      have h := CellsAt.new W #[.int .u32 cluster, .int .u32 id] 28
      rwa [HWS.out] at h
    have HV2 : Hid (CellsAt (W.alloc (.cells #[.int .u32 cluster, .int .u32 id] 28)) (w.heap.size + 1 + 1) p.as 34) := HC2.out.alloc _
    have HV3 : Hid (CellsAt (W.alloc (.cells #[.int .u32 cluster, .int .u32 id] 28)) w.heap.size (cfgC asn id confed cluster) 68) := HC3.out.alloc _
    have HBV : Hid (Below w.heap.size w (W.alloc (.cells #[.int .u32 cluster, .int .u32 id] 28))) := HB2.out.alloc (HB2.out.size) _
    have HO := Lib.hid (HOR.out cluster id (w.heap.size + 1 + 1 + 1) _ HCN.out.c2.1 HCN.out.c2.2)
    clear HCN HC2 HC3 HB2 HWS HOR
    generalize W.alloc (.cells #[.int .u32 cluster, .int .u32 id] 28) = V at *
    refine HO.out.mono ?_
    rintro e w1 ⟨rfl, hw1⟩
    rw [hw1]
    clear hw1 HO
    have HPV : Hid (PtOk V p) := HOK.out.below HBV.out (Nat.le_refl _)
    have a15 := (HV2.out.c 15).trans (show p.as[15]? = some (.slice p.cA p.clus.length p.cC) from by kernel_rfl)
    have a1 := (HV2.out.c 1).trans (show p.as[1]? = some (.slice p.pA p.segs.length p.pC) from by kernel_rfl)
    have a13 := (HV2.out.c 13).trans (show p.as[13]? = some (.bool p.hasOrig) from by kernel_rfl)
    have a14 := (HV2.out.c 14).trans (show p.as[14]? = some (.int .u32 p.orig) from by kernel_rfl)
    have g0 := (HV3.out.c 0).trans (show (cfgC asn id confed cluster)[0]? = some (.int .u32 asn) from rfl)
    have g1 := (HV3.out.c 1).trans (show (cfgC asn id confed cluster)[1]? = some (.int .u32 id) from rfl)
    have g2 := (HV3.out.c 2).trans (show (cfgC asn id confed cluster)[2]? = some (.int .u32 confed) from rfl)
    have hcl := HPV.out.clen
    have hcc : p.cC ≤ 9223372036854775807 := HPV.out.ccap
    have HHAS := Lib.hid (fun n W2 (h : PtOk W2 p) => has_any p.pA p.pC p.segs n W2 h.rd h.segs h.len h.cap)
    generalize hn : orF cluster id = n at HL
    have HN := Lib.hid hn
    clear hn
    go_wp2_with fail
    go_loopw [24] (fun i wr => ∃ k : Nat, k ≤ p.clus.length ∧ i = .int .i64 k ∧ Hid (hasN (p.clus.take k) n = false) ∧ wr = V) (fun i _ => p.clus.length + 1 - (intOf i).toNat)
    case atStart => exact ⟨0, by omega, rfl, rfl, rfl⟩
    case round =>
      obtain ⟨k, hk, rfl, HNO, hwr⟩ := hrel
      subst hwr
      by_cases hlt : k < p.clus.length
      · obtain ⟨x, hx⟩ : ∃ x, p.clus[k]? = some x := ⟨p.clus[k], List.getElem?_eq_getElem hlt⟩
        obtain ⟨b, off, hA, hb, hcell⟩ := u32_at HPV.out.crd hx
        have HX := Lib.hid hx
        rw [hA] at a15 ⊢
        clear hx
        by_cases he : (x : Int) = n
        · have hq : ((x : Int) == n) = true := by rw [he]; simp
          have HY : Hid (loopsF asn id confed cluster p = true) := by
            show _ = _
            rw [HL.out, hasN_yes HX.out he]
            rfl
          clear he
          go_wp2_with fail
          go_ret
          exact ⟨by rw [HY.out]; rfl, HBV.out⟩
        · have hq : ((x : Int) == n) = false := beq_eq_false_iff_ne.2 he
          have HY : Hid (hasN (p.clus.take (k + 1)) n = false) := by
            show _ = _
            rw [hasN_take n HX.out, HNO.out, hq]
            rfl
          clear he
          go_wp2_with fail
          exact ⟨⟨k + 1, by omega, by go_num, HY.out, by trivial⟩, by simp [intOf]; omega⟩
      · obtain rfl : k = p.clus.length := by omega
        rw [List.take_length] at HNO
        rw [HNO.out] at HL
        go_wp2_with fail
        refine (HHAS.out asn _ HPV.out).mono ?_
        rintro e w2 ⟨rfl, hb2⟩
        have HBW : Hid (Below w.heap.size w w2) := HBV.out.trans (hb2.mono HBV.out.size)
        have HV22 : Hid (CellsAt w2 (w.heap.size + 1 + 1) p.as 34) := HV2.out.below hb2 HV2.out.lt
        have HV32 : Hid (CellsAt w2 w.heap.size (cfgC asn id confed cluster) 68) := HV3.out.below hb2 HV3.out.lt
        have HPV2 : Hid (PtOk w2 p) := HPV.out.below hb2 (Nat.le_refl _)
        have b1 := (HV22.out.c 1).trans (show p.as[1]? = some (.slice p.pA p.segs.length p.pC) from by kernel_rfl)
        have b13 := (HV22.out.c 13).trans (show p.as[13]? = some (.bool p.hasOrig) from by kernel_rfl)
        have b14 := (HV22.out.c 14).trans (show p.as[14]? = some (.int .u32 p.orig) from by kernel_rfl)
        have h1 := (HV32.out.c 1).trans (show (cfgC asn id confed cluster)[1]? = some (.int .u32 id) from rfl)
        have h2 := (HV32.out.c 2).trans (show (cfgC asn id confed cluster)[2]? = some (.int .u32 confed) from rfl)
        clear hb2 a15 a1 a13 a14 g0 g1 g2
        cases hh1 : hasS p.segs asn with
        | true =>
          rw [hh1] at HL
          clear hh1
          go_wp2_with fail
          go_ret
          exact ⟨by rw [HL.out]; rfl, HBW.out⟩
        | false =>
          rw [hh1] at HL
          clear hh1
          by_cases hcf : 0 < confed
          · rw [decide_eq_true hcf] at HL
            go_wp2_with fail
            refine (HHAS.out confed _ HPV2.out).mono ?_
            rintro e w3 ⟨rfl, hb3⟩
            have HBX : Hid (Below w.heap.size w w3) := HBW.out.trans (hb3.mono HBW.out.size)
            have HV23 : Hid (CellsAt w3 (w.heap.size + 1 + 1) p.as 34) := HV22.out.below hb3 HV22.out.lt
            have HV33 : Hid (CellsAt w3 w.heap.size (cfgC asn id confed cluster) 68) := HV32.out.below hb3 HV32.out.lt
            have d13 := (HV23.out.c 13).trans (show p.as[13]? = some (.bool p.hasOrig) from by kernel_rfl)
            have d14 := (HV23.out.c 14).trans (show p.as[14]? = some (.int .u32 p.orig) from by kernel_rfl)
            have e1 := (HV33.out.c 1).trans (show (cfgC asn id confed cluster)[1]? = some (.int .u32 id) from rfl)
            clear hb3 b1 b13 b14 h1 h2
            cases hh2 : hasS p.segs confed with
            | true =>
              rw [hh2] at HL
              clear hh2
              go_wp2_with fail
              go_ret
              exact ⟨by rw [HL.out]; rfl, HBX.out⟩
            | false =>
              rw [hh2] at HL
              clear hh2
              cases ho : p.hasOrig with
              | true =>
                rw [ho] at HL d13
                clear ho
                go_wp2_with fail
                go_ret
                exact ⟨by rw [HL.out]; rfl, HBX.out⟩
              | false =>
                rw [ho] at HL d13
                clear ho
                go_wp2_with fail
                go_ret
                exact ⟨by rw [HL.out]; rfl, HBX.out⟩
          · rw [decide_eq_false hcf] at HL
            cases ho : p.hasOrig with
            | true =>
              rw [ho] at HL b13
              clear ho
              go_wp2_with fail
              go_ret
              exact ⟨by rw [HL.out]; rfl, HBW.out⟩
            | false =>
              rw [ho] at HL b13
              clear ho
              go_wp2_with fail
              go_ret
              exact ⟨by rw [HL.out]; rfl, HBW.out⟩
end Go.Proofs.Ytoamigfjpcniaaa
