/-
  Several texts in one.
-/
import Derived.Test.YtldpcliahfiloaaGreatPW30
import Derived.Test.YtldpcliahfiloaaGreatPW13
import Derived.Test.YtldpcliahfiloaaGreatPW14
set_option linter.unusedVariables false
set_option linter.unusedSimpArgs false
namespace Go.Proofs.YtldpcliahfiloaaGreat
open Go.RowKit Go.MapKept Go.Shelf
open Go.Lib hiding intOf
open Go.Sort hiding Below
open Go.Maps (Keyed)

def wt1 : TdC := ⟨atK 10 0, 0, medC 1, false⟩
def wt2 : TdC := ⟨atK 10 1, 0, medC 2, false⟩
theorem at_may0 : nlMay (nlk (atK 10 0) 0) := by decide +kernel
theorem at_may1 : nlMay (nlk (atK 10 1) 0) := by decide +kernel
theorem at_may2 : nlMay (nlk (atK 11 0) 0) := by decide +kernel
theorem at_ne01 : atK 10 0 ≠ atK 10 1 := fun e => absurd (congrArg Pk.id e) (by decide)
theorem at_ne02 : atK 10 0 ≠ atK 11 0 := fun e => absurd (congrArg (fun p : Pk => p.addr.data.toList) e) (by decide)
theorem at_ne12 : atK 10 1 ≠ atK 11 0 := fun e => absurd (congrArg Pk.id e) (by decide)
theorem wput1 : putC 2 [] (nlk (atK 10 0) 0) (medC 1) = (false, 0, [wt1]) := by
  rw [putC_set ⟨at_may0, medC_ok 1⟩ (fun h => by have := h.2.2; simp at this)]
  rfl
theorem wput2 : putC 2 [wt1] (nlk (atK 10 1) 0) (medC 2) = (false, 0, [wt1, wt2]) := by
  rw [putC_set ⟨at_may1, medC_ok 2⟩ (fun h => by have := h.2.2; simp at this)]
  show (false, (0 : Int), setC [wt1] wt2) = _
  unfold setC
  rw [if_neg (show ¬ wt1.k = wt2.k from at_ne01)]
  rfl
theorem wput3 : putC 2 [wt1, wt2] (nlk (atK 11 0) 0) (medC 3) = (true, 0, [wt1, wt2]) :=
  putC_over ⟨at_may2, medC_ok 3⟩ ⟨by
    show List.find? _ [wt1, wt2] = none
    rw [List.find?_cons, List.find?_cons]
    have h1 : ¬ wt1.k = atK 11 0 := at_ne02
    have h2 : ¬ wt2.k = atK 11 0 := at_ne12
    show (match decide (wt1.k = atK 11 0) with | true => some wt1 | false => match decide (wt2.k = atK 11 0) with | true => some wt2 | false => _) = none
    rw [decide_eq_false h1, decide_eq_false h2]
    rfl, by decide, by decide⟩
theorem wget : getC [wt1, wt2] (atK 10 1) = some wt2 := by
  show List.find? _ [wt1, wt2] = _
  have h1 : ¬ wt1.k = atK 10 1 := at_ne01
  rw [List.find?_cons_of_neg (by simpa using h1), List.find?_cons_of_pos (by show decide (wt2.k = atK 10 1) = true; exact decide_eq_true rfl)]
theorem wcnt : cntC [wt1, wt2] 1 = 2 := by
  unfold cntC
  rw [List.filter_cons_of_pos (by rfl), List.filter_cons_of_pos (by rfl)]
  rfl
set_option maxRecDepth 100000 in
set_option maxHeartbeats 8000000 in
theorem rworks_any (w : World) : Calls Tryz.prog 11 #[] w fun e w' => e = .returned (.bool true) ∧ Below w.heap.size w w' := by
  have HNEW := Lib.hid (fun w => rnewM_any 2 w)
  have HA0 : Hid (∀ W, Calls Tryz.prog 31 #[.int .u8 10, .int .u32 0] W fun e w' => e = .returned (.agg (nlA (atK 10 0) 0)) ∧ Below W.heap.size W w') := fun W => at_any 10 0 W
  have HA1 : Hid (∀ W, Calls Tryz.prog 31 #[.int .u8 10, .int .u32 1] W fun e w' => e = .returned (.agg (nlA (atK 10 1) 0)) ∧ Below W.heap.size W w') := fun W => at_any 10 1 W
  have HA2 : Hid (∀ W, Calls Tryz.prog 31 #[.int .u8 11, .int .u32 0] W fun e w' => e = .returned (.agg (nlA (atK 11 0) 0)) ∧ Below W.heap.size W w') := fun W => at_any 11 0 W
  have HO1 : Hid (∀ W, Calls Tryz.prog 32 #[.int .u32 1] W fun e w' => e = .returned (.agg (medA 1).ar) ∧ Below W.heap.size W w') := fun W => of_any 1 W
  have HO2 : Hid (∀ W, Calls Tryz.prog 32 #[.int .u32 2] W fun e w' => e = .returned (.agg (medA 2).ar) ∧ Below W.heap.size W w') := fun W => of_any 2 W
  have HO3 : Hid (∀ W, Calls Tryz.prog 32 #[.int .u32 3] W fun e w' => e = .returned (.agg (medA 3).ar) ∧ Below W.heap.size W w') := fun W => of_any 3 W
  have HP1 : Hid (∀ W base b m, RibM W base b m 2 [] → Calls Tryz.prog 13 #[.pointer (some ⟨b, 0, none⟩), .agg (nlA (atK 10 0) 0), .agg (medA 1).ar] W fun e w' => (e = .returned (.tuple #[.bool false, .int .i64 0]) ∧ RibM w' base b m 2 [wt1]) ∧ GrownX (fun i => i = m) W w') := fun W base b m h => (rputM_any h (atK 10 0) 0 (at_ok 10 0 (by decide)) (by decide) (medA 1) (medA_own W 0 (by decide)).ok (medC_sz 1) (by decide)).mono fun e w' h2 => by
    have h3 := h2.1
    unfold PutPost at h3
    rw [medA_c, wput1] at h3
    exact ⟨h3, h2.2⟩
  have HP2 : Hid (∀ W base b m, RibM W base b m 2 [wt1] → Calls Tryz.prog 13 #[.pointer (some ⟨b, 0, none⟩), .agg (nlA (atK 10 1) 0), .agg (medA 2).ar] W fun e w' => (e = .returned (.tuple #[.bool false, .int .i64 0]) ∧ RibM w' base b m 2 [wt1, wt2]) ∧ GrownX (fun i => i = m) W w') := fun W base b m h => (rputM_any h (atK 10 1) 0 (at_ok 10 1 (by decide)) (by decide) (medA 2) (medA_own W 0 (by decide)).ok (medC_sz 2) (by decide)).mono fun e w' h2 => by
    have h3 := h2.1
    unfold PutPost at h3
    rw [medA_c, wput2] at h3
    exact ⟨h3, h2.2⟩
  have HP3 : Hid (∀ W base b m, RibM W base b m 2 [wt1, wt2] → Calls Tryz.prog 13 #[.pointer (some ⟨b, 0, none⟩), .agg (nlA (atK 11 0) 0), .agg (medA 3).ar] W fun e w' => (e = .returned (.tuple #[.bool true, .int .i64 0]) ∧ RibM w' base b m 2 [wt1, wt2]) ∧ GrownX (fun i => i = m) W w') := fun W base b m h => (rputM_any h (atK 11 0) 0 (at_ok 11 0 (by decide)) (by decide) (medA 3) (medA_own W 0 (by decide)).ok (medC_sz 3) (by decide)).mono fun e w' h2 => by
    have h3 := h2.1
    unfold PutPost at h3
    rw [medA_c, wput3] at h3
    exact ⟨h3, h2.2⟩
  have HGT : Hid (∀ W base b m, RibM W base b m 2 [wt1, wt2] → Calls Tryz.prog 18 #[.pointer (some ⟨b, 0, none⟩), .agg (atK 10 1).pf, .int .u32 1] W fun e w' => (∃ a : Atr, e = .returned (.tuple #[.agg (pathAr (atK 10 1) 0 a false), .bool true]) ∧ a.med = 2) ∧ Below W.heap.size W w') := fun W base b m h => (rgetM_any h (atK 10 1) (at_ok 10 1 (by decide))).mono fun e w' h2 => by
    have h3 := h2.1
    unfold GetPost at h3
    rw [wget] at h3
    obtain ⟨a, g1, g2, g3⟩ := h3
    exact ⟨⟨a, g1, congrArg AtC.med g3⟩, h2.2⟩
  have HCT : Hid (∀ W base b m, RibM W base b m 2 [wt1, wt2] → Calls Tryz.prog 9 #[.pointer (some ⟨b, 0, none⟩), .int .i64 1] W fun e w' => e = .returned (.int .i64 2) ∧ Below W.heap.size W w') := fun W base b m h => by
    have h2 := rcountM_any h 1
    rw [wcnt] at h2
    exact h2
  have hfd : ∀ W : World, (Instr.field 35 (.agg (nlA (atK 10 1) 0)) 0).run Tryz.prog W = .ok (.agg (atK 10 1).pf) W := fun W => by kernel_rfl
  go_enter Tryz.func11, Tryz.ntmps11
  go_wp2_with fail
  refine (HNEW.out _).mono ?_
  rintro e w1 ⟨b, m, rfl, hr1, hb1, hm1, hbb⟩
  have HM : Hid (w.heap.size ≤ m) := hm1
  have HR1 := Lib.hid hr1
  have HB1 : Hid (Below w.heap.size w w1) := hb1
  clear hr1 hb1 hm1 hbb
  go_wp2_with fail
  refine (HA0.out _).mono ?_
  rintro e w2 ⟨rfl, hb⟩
  have HR2 := Lib.hid (HR1.out.below hb)
  have HB2 : Hid (Below w.heap.size w w2) := HB1.out.trans (hb.mono HB1.out.size)
  clear hb HR1 HB1
  go_wp2_with fail
  refine (HO1.out _).mono ?_
  rintro e w3 ⟨rfl, hb⟩
  have HR3 := Lib.hid (HR2.out.below hb)
  have HB3 : Hid (Below w.heap.size w w3) := HB2.out.trans (hb.mono HB2.out.size)
  clear hb HR2 HB2
  go_wp2_with fail
  refine (HP1.out _ _ _ _ HR3.out).mono ?_
  rintro e w4 ⟨⟨rfl, hr⟩, hg⟩
  have HR4 := Lib.hid hr
  have HB4 : Hid (Below w.heap.size w w4) := HB3.out.trans (hg.toBelow HM.out HB3.out.size)
  clear hr hg HR3 HB3
  go_wp2_with fail
  refine (HA1.out _).mono ?_
  rintro e w5 ⟨rfl, hb⟩
  have HR5 := Lib.hid (HR4.out.below hb)
  have HB5 : Hid (Below w.heap.size w w5) := HB4.out.trans (hb.mono HB4.out.size)
  clear hb HR4 HB4
  go_wp2_with fail
  refine (HO2.out _).mono ?_
  rintro e w6 ⟨rfl, hb⟩
  have HR6 := Lib.hid (HR5.out.below hb)
  have HB6 : Hid (Below w.heap.size w w6) := HB5.out.trans (hb.mono HB5.out.size)
  clear hb HR5 HB5
  go_wp2_with fail
  refine (HP2.out _ _ _ _ HR6.out).mono ?_
  rintro e w7 ⟨⟨rfl, hr⟩, hg⟩
  have HR7 := Lib.hid hr
  have HB7 : Hid (Below w.heap.size w w7) := HB6.out.trans (hg.toBelow HM.out HB6.out.size)
  clear hr hg HR6 HB6
  go_wp2_with fail
  refine (HA2.out _).mono ?_
  rintro e w8 ⟨rfl, hb⟩
  have HR8 := Lib.hid (HR7.out.below hb)
  have HB8 : Hid (Below w.heap.size w w8) := HB7.out.trans (hb.mono HB7.out.size)
  clear hb HR7 HB7
  go_wp2_with fail
  refine (HO3.out _).mono ?_
  rintro e w9 ⟨rfl, hb⟩
  have HR9 := Lib.hid (HR8.out.below hb)
  have HB9 : Hid (Below w.heap.size w w9) := HB8.out.trans (hb.mono HB8.out.size)
  clear hb HR8 HB8
  go_wp2_with fail
  refine (HP3.out _ _ _ _ HR9.out).mono ?_
  rintro e w10 ⟨⟨rfl, hr⟩, hg⟩
  have HR10 := Lib.hid hr
  have HB10 : Hid (Below w.heap.size w w10) := HB9.out.trans (hg.toBelow HM.out HB9.out.size)
  clear hr hg HR9 HB9
  go_wp2_with fail
  refine (HA1.out _).mono ?_
  rintro e w11 ⟨rfl, hb⟩
  have HR11 := Lib.hid (HR10.out.below hb)
  have HB11 : Hid (Below w.heap.size w w11) := HB10.out.trans (hb.mono HB10.out.size)
  clear hb HR10 HB10
  go_wp2_with fail
  refine (HGT.out _ _ _ _ HR11.out).mono ?_
  rintro e w12 ⟨⟨a, rfl, hmed⟩, hb⟩
  have HR12 := Lib.hid (HR11.out.below hb)
  have HB12 : Hid (Below w.heap.size w w12) := HB11.out.trans (hb.mono HB11.out.size)
  have HMED := Lib.hid hmed
  have HN : Hid (∀ cs : Array Value, CellsAt (w12.alloc (.cells cs 64)) w12.heap.size cs 64) := fun cs => CellsAt.new _ _ _
  clear hb hmed HR11 HB11 hfd
  go_upto_region 8 with (with_reducible show wpList _ _ _ (_ :: _) _ _; refine wpList_store_path rfl (.tmp 8) (.tmp 39) rfl w12.heap.size rfl (atK 10 1) 0 a false rfl _ (HN.out _) rfl ?_)
  refine rb_name fun V hV => ?_
  have hbV : Below w12.heap.size w12 V := by rw [hV]; exact ((Below.refl _ _).alloc (Nat.le_refl _) _).grown (grown_setRow' _ _ _) (by simp) (fun q hq => by cases hq; exact Nat.le_refl _)
  have HC : Hid (CellsAt V w12.heap.size (pathAr (atK 10 1) 0 a false) 64) := by rw [hV]; exact (HN.out _).setRow' _
  have HRV := Lib.hid (HR12.out.below hbV)
  have HBV : Hid (Below w.heap.size w V) := HB12.out.trans (hbV.mono HB12.out.size)
  have c10 : V.cell? ⟨w12.heap.size, 10, none⟩ = some (.int .u32 2) := by
    rw [HC.out.c 10]
    show some (Value.int .u32 (a.med : Nat)) = _
    rw [HMED.out]
    rfl
  clear hV hbV HR12 HB12 HN
  go_wp2_with fail
  refine (HCT.out _ _ _ _ HRV.out).mono ?_
  rintro e w13 ⟨rfl, hb⟩
  have HB13 : Hid (Below w.heap.size w w13) := HBV.out.trans (hb.mono HBV.out.size)
  clear hb
  go_wp2_with fail
  go_ret
  exact ⟨rfl, HB13.out⟩
end Go.Proofs.YtldpcliahfiloaaGreat
set_option linter.unusedVariables false
set_option linter.unusedSimpArgs false
namespace Go.Proofs.YtldpcliahfiloaaGreat
open Go.RowKit Go.MapKept Go.Shelf
open Go.Lib hiding intOf

theorem Lg.eq_iff {a b : Lg} : (a.g = b.g ∧ a.a = b.a ∧ a.b = b.b) ↔ a = b := by
  cases a
  cases b
  simp
instance : DecidableEq Lg := fun a b => decidable_of_iff _ (Lg.eq_iff (a := a) (b := b))
/-- two lists that lie in memory, alike as far as looked at -/
theorem list_alike {α : Type} {xs ys : List α} (hl : xs.length = ys.length) (h : ∀ j, j < xs.length → xs[j]? = ys[j]?) : xs = ys := by
  apply List.ext_getElem?
  intro j
  by_cases hj : j < xs.length
  · exact h j hj
  · rw [List.getElem?_eq_none (by omega), List.getElem?_eq_none (by omega)]
theorem list_unlike {α : Type} {xs ys : List α} {k : Nat} {x y : α} (hx : xs[k]? = some x) (hy : ys[k]? = some y) (h : x ≠ y) : ¬ xs = ys := by
  intro e
  rw [e, hy] at hx
  exact h (Option.some.inj hx).symm

set_option maxRecDepth 100000 in
set_option maxHeartbeats 8000000 in
theorem sameas_any (A B : Option Addr) (c d : Nat) (xs ys : List Nat) (w : World) (h1 : Rd w A 1 (nums .u32 xs)) (h2 : Rd w B 1 (nums .u32 ys)) (l1 : xs.length ≤ c) (l2 : ys.length ≤ d) (l3 : c ≤ 9223372036854775807) (l4 : d ≤ 9223372036854775807) :
    Calls Tryz.prog 42 #[.slice A xs.length c, .slice B ys.length d] w fun e w' => e = .returned (.bool (decide (xs = ys))) ∧ Below w.heap.size w w' := by
  have H1 := Lib.hid h1
  have H2 := Lib.hid h2
  clear h1 h2
  by_cases hl : xs.length = ys.length
  · generalize hr : decide (xs = ys) = r
    have HR := Lib.hid hr
    clear hr
    have HLE := Lib.hid hl
    generalize hm : ys.length = m at hl l2 ⊢
    subst hl
    clear hm
    have z1 : ((xs.length : Int) != (xs.length : Int)) = false := by simp
    go_enter Tryz.func42, Tryz.ntmps42
    go_wp2_with fail
    go_loopw [5] (fun i wr => ∃ k : Nat, k ≤ xs.length ∧ i = .int .i64 k ∧ Hid (Below w.heap.size w wr) ∧ Hid (∀ j, j < k → xs[j]? = ys[j]?)) (fun i _ => xs.length + 1 - (intOf i).toNat)
    case atStart => exact ⟨0, by omega, rfl, Below.refl _ _, fun j hj => by omega⟩
    case round =>
      obtain ⟨k, hk, rfl, HB, HE⟩ := hrel
      by_cases hlt : k < xs.length
      · obtain ⟨x, hx⟩ : ∃ x, xs[k]? = some x := ⟨xs[k], List.getElem?_eq_getElem hlt⟩
        obtain ⟨y, hy⟩ : ∃ y, ys[k]? = some y := ⟨ys[k]'(by have := HLE.out; omega), List.getElem?_eq_getElem (by have := HLE.out; omega)⟩
        obtain ⟨b1, o1, rfl, hb1, hc1⟩ := num_at (H1.out.below HB.out (Nat.le_refl _)) hx
        obtain ⟨b2, o2, rfl, hb2, hc2⟩ := num_at (H2.out.below HB.out (Nat.le_refl _)) hy
        have HX := Lib.hid hx
        have HY := Lib.hid hy
        clear hx hy
        by_cases hxy : x = y
        · subst hxy
          have hne : ((x : Int) != (x : Int)) = false := by simp
          have he : ((x : Int) == (x : Int)) = true := by simp
          go_wp2_with fail
          go_quiet (fail)
          go_wp2_with fail
          exact ⟨⟨k + 1, by omega, by go_num, below_drewN HB.out _, fun j hj => by
            by_cases e : j = k
            · subst e; exact HX.out.trans HY.out.symm
            · exact HE.out j (by omega)⟩, by simp [intOf]; omega⟩
        · obtain rfl : r = false := by rw [← HR.out]; exact decide_eq_false (list_unlike HX.out HY.out hxy)
          have he : ((x : Int) == (y : Int)) = false := beq_eq_false_iff_ne.2 (by omega)
          have hne : ((x : Int) != (y : Int)) = true := bne_iff_ne.2 (by omega)
          clear hxy
          go_wp2_with fail
          go_quiet (fail)
          go_wp2_with fail
          go_ret
          exact ⟨rfl, below_drewN HB.out _⟩
      · obtain rfl : k = xs.length := by omega
        obtain rfl : r = true := by rw [← HR.out]; exact decide_eq_true (list_alike HLE.out HE.out)
        go_wp2_with fail
        go_ret
        exact ⟨rfl, HB.out⟩
  · have hr : decide (xs = ys) = false := decide_eq_false_iff_not.2 (fun e => hl (by rw [e]))
    rw [hr]
    have hne : ((xs.length : Int) == (ys.length : Int)) = false := by rw [beq_eq_false_iff_ne]; omega
    have hnb : ((xs.length : Int) != (ys.length : Int)) = true := by simp [bne, hne]
    clear hr hl
    go_enter Tryz.func42, Tryz.ntmps42
    go_wp2_with fail
    go_ret
    exact ⟨rfl, Below.refl _ _⟩
end Go.Proofs.YtldpcliahfiloaaGreat
set_option linter.unusedVariables false
set_option linter.unusedSimpArgs false
namespace Go.Proofs.YtldpcliahfiloaaGreat
open Go.RowKit Go.MapKept Go.Shelf
open Go.Lib hiding intOf

theorem Sg.c_eq {s t : Sg} : s.c = t.c ↔ s.kind = t.kind ∧ s.as_ = t.as_ := by
  unfold Sg.c
  exact Prod.mk.injEq _ _ _ _ ▸ Iff.rfl
theorem map_alike {l m : List Sg} (hl : l.length = m.length) (h : ∀ j, j < l.length → (l.map Sg.c)[j]? = (m.map Sg.c)[j]?) : l.map Sg.c = m.map Sg.c :=
  list_alike (by rw [List.length_map, List.length_map]; exact hl) (fun j hj => h j (by rwa [List.length_map] at hj))
theorem map_unlike {l m : List Sg} {k : Nat} {s t : Sg} (hx : l[k]? = some s) (hy : m[k]? = some t) (h : s.c ≠ t.c) : ¬ l.map Sg.c = m.map Sg.c :=
  list_unlike (k := k) (by rw [List.getElem?_map, hx]; rfl) (by rw [List.getElem?_map, hy]; rfl) h
theorem map_step {l m : List Sg} {k : Nat} {s t : Sg} (hx : l[k]? = some s) (hy : m[k]? = some t) (h : s.c = t.c) (hE : ∀ j, j < k → (l.map Sg.c)[j]? = (m.map Sg.c)[j]?) : ∀ j, j < k + 1 → (l.map Sg.c)[j]? = (m.map Sg.c)[j]? := fun j hj => by
  by_cases e : j = k
  · subst e
    rw [List.getElem?_map, List.getElem?_map, hx, hy]
    exact congrArg some h
  · exact hE j (by omega)
end Go.Proofs.YtldpcliahfiloaaGreat
