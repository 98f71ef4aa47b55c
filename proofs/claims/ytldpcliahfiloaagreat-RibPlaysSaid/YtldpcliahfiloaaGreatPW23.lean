/-
  Several texts in one.
-/
import Derived.Test.YtldpcliahfiloaaGreatPW22
import Derived.Test.YtldpcliahfiloaaGreatPW4
import Derived.StillTailTactics
import Derived.Deep.QuietTactic
import Derived.BigQuiet
import Derived.Laws.EntriesVeiled
set_option linter.unusedVariables false
set_option linter.unusedSimpArgs false
namespace Go.Proofs.YtldpcliahfiloaaGreat
open Go.RowKit Go.MapKept Go.Shelf Go.Lib
open Go.Sort hiding Below
open Go.Maps (Keyed)

/-- nothing turns: blocks are laid, questions are drawn -/
def GW (w w' : World) : Prop := ∃ q os, w' = grow (w.drewN q) os
theorem GW.refl (w : World) : GW w w := ⟨0, #[], by simp [grow, World.drewN_zero]⟩
theorem GW.trans {a b c : World} (h : GW a b) (k : GW b c) : GW a c := by
  obtain ⟨q1, o1, rfl⟩ := h
  obtain ⟨q2, o2, rfl⟩ := k
  refine ⟨q1 + q2, o1 ++ o2, ?_⟩
  rw [show (grow (a.drewN q1) o1).drewN q2 = grow ((a.drewN q1).drewN q2) o1 from rfl, grow_grow, World.drewN_drewN]
theorem GW.alloc {a b : World} (h : GW a b) (o : Obj) : GW a (b.alloc o) := h.trans ⟨0, #[o], by rw [World.drewN_zero]; exact alloc_eq_grow b o⟩
theorem GW.drew {a b : World} (h : GW a b) (n : Nat) : GW a (b.drewN n) := h.trans ⟨n, #[], by simp [grow]; rfl⟩
theorem GW.below {a b : World} (h : GW a b) : Below a.heap.size a b := by
  obtain ⟨q, os, rfl⟩ := h
  refine ⟨rfl, rfl, rfl, by simp [grow], fun i hi => ?_⟩
  show ((a.drewN q).heap ++ os)[i]? = a.heap[i]?
  rw [World.heap_drewN, Array.getElem?_append_left hi]
def Pk.pf (p : Pk) : Array Value := #[.int .i64 p.fam, .int .u64 p.rd, .string p.addr, .int .i64 p.len]
theorem cmp64 (x y : Int) (w : World) : Calls Tryz.prog 54 #[.int .u64 x, .int .u64 y] w fun e w' => e = .returned (.int .i64 (Lib.compareInt x y)) ∧ w' = w := by
  have nan : ∀ (x : Int) (w : World), Calls Tryz.prog 75 #[.int .u64 x] w fun e w' => e = .returned (.bool false) ∧ w' = w := fun x w => by
    go_enter Tryz.func75, Tryz.ntmps75
    go_wp2_with fail
    go_ret
    exact ⟨by simp, rfl⟩
  go_enter Tryz.func54, Tryz.ntmps54
  go_wp2_with (refine (nan _ _).mono ?_; rintro e w' ⟨rfl, hw⟩; rw [hw])
  all_goals (go_ret; refine ⟨?_, rfl⟩; unfold Lib.compareInt; (repeat' split) <;> first | rfl | (exfalso; omega))
theorem cmp32 (x y : Int) (w : World) : Calls Tryz.prog 52 #[.int .u32 x, .int .u32 y] w fun e w' => e = .returned (.int .i64 (Lib.compareInt x y)) ∧ w' = w := by
  have nan : ∀ (x : Int) (w : World), Calls Tryz.prog 74 #[.int .u32 x] w fun e w' => e = .returned (.bool false) ∧ w' = w := fun x w => by
    go_enter Tryz.func74, Tryz.ntmps74
    go_wp2_with fail
    go_ret
    exact ⟨by simp, rfl⟩
  go_enter Tryz.func52, Tryz.ntmps52
  go_wp2_with (refine (nan _ _).mono ?_; rintro e w' ⟨rfl, hw⟩; rw [hw])
  all_goals (go_ret; refine ⟨?_, rfl⟩; unfold Lib.compareInt; (repeat' split) <;> first | rfl | (exfalso; omega))
theorem clo1_any (x y : Pk) (w : World) : Calls Tryz.prog 90 #[.agg x.pf, .agg y.pf] w fun e w' => e = .returned (.int .i64 (Lib.compareInt x.fam y.fam)) ∧ GW w w' := by
  have HI := Lib.hid (fun w => Tryz.cmp_Compare_int x.fam y.fam w)
  have HG := Lib.hid (((GW.refl w).alloc (.cells x.pf 32)).alloc (.cells y.pf 32))
  generalize Lib.compareInt x.fam y.fam = c1 at HI ⊢
  unfold Pk.pf at HG ⊢
  go_enter Tryz.func90, Tryz.ntmps90
  go_wp2_with fail
  refine (HI.out _).mono ?_
  rintro e w' ⟨rfl, hw⟩
  subst w'
  go_wp2_with fail
  go_ret
  exact ⟨rfl, HG.out⟩
theorem clo2_any (x y : Pk) (w : World) : Calls Tryz.prog 92 #[.agg x.pf, .agg y.pf] w fun e w' => e = .returned (.int .i64 (Lib.compareInt x.rd y.rd)) ∧ GW w w' := by
  have HI := Lib.hid (fun w => cmp64 x.rd y.rd w)
  have HG := Lib.hid (((GW.refl w).alloc (.cells x.pf 32)).alloc (.cells y.pf 32))
  generalize Lib.compareInt x.rd y.rd = c1 at HI ⊢
  unfold Pk.pf at HG ⊢
  go_enter Tryz.func92, Tryz.ntmps92
  go_wp2_with fail
  refine (HI.out _).mono ?_
  rintro e w' ⟨rfl, hw⟩
  subst w'
  go_wp2_with fail
  go_ret
  exact ⟨rfl, HG.out⟩
theorem clo3_any (x y : Pk) (w : World) : Calls Tryz.prog 93 #[.agg x.pf, .agg y.pf] w fun e w' => e = .returned (.int .i64 (Lib.compareBytes x.addr.data.toList y.addr.data.toList)) ∧ GW w w' := by
  have HI := Lib.hid (fun w => Tryz.strings_Compare x.addr y.addr w)
  have HG := Lib.hid (((GW.refl w).alloc (.cells x.pf 32)).alloc (.cells y.pf 32))
  generalize Lib.compareBytes x.addr.data.toList y.addr.data.toList = c1 at HI ⊢
  unfold Pk.pf at HG ⊢
  go_enter Tryz.func93, Tryz.ntmps93
  go_wp2_with fail
  refine (HI.out _).mono ?_
  rintro e w' ⟨rfl, hw⟩
  subst w'
  go_wp2_with fail
  go_ret
  exact ⟨rfl, HG.out⟩
theorem clo4_any (x y : Pk) (w : World) : Calls Tryz.prog 95 #[.agg x.pf, .agg y.pf] w fun e w' => e = .returned (.int .i64 (Lib.compareInt x.len y.len)) ∧ GW w w' := by
  have HI := Lib.hid (fun w => Tryz.cmp_Compare_int x.len y.len w)
  have HG := Lib.hid (((GW.refl w).alloc (.cells x.pf 32)).alloc (.cells y.pf 32))
  generalize Lib.compareInt x.len y.len = c1 at HI ⊢
  unfold Pk.pf at HG ⊢
  go_enter Tryz.func95, Tryz.ntmps95
  go_wp2_with fail
  refine (HI.out _).mono ?_
  rintro e w' ⟨rfl, hw⟩
  subst w'
  go_wp2_with fail
  go_ret
  exact ⟨rfl, HG.out⟩
/-- the j-th of prim.Cmp's orders -/
def cj (x y : Pk) (j : Nat) : Int := if j = 0 then Lib.compareInt x.fam y.fam else if j = 1 then Lib.compareInt x.rd y.rd else if j = 2 then Lib.compareBytes x.addr.data.toList y.addr.data.toList else Lib.compareInt x.len y.len
theorem pcF_at {x y : Pk} {j : Nat} (hj : j < 4) (h : ∀ i, i < j → cj x y i = 0) (hn : cj x y j ≠ 0) : pcF x y = cj x y j := by
  have h0 := h 0
  have h1 := h 1
  have h2 := h 2
  unfold pcF roF
  unfold cj at *
  rcases (show j = 0 ∨ j = 1 ∨ j = 2 ∨ j = 3 by omega) with rfl | rfl | rfl | rfl
  · simp at hn ⊢; simp [hn]
  · simp at hn h0 ⊢; simp [h0, hn]
  · simp at hn h0 h1 ⊢; simp [h0, h1, hn]
  · simp at hn h0 h1 h2 ⊢; simp [h0, h1, h2]
theorem pcF_no {x y : Pk} (h : ∀ i, i < 4 → cj x y i = 0) : pcF x y = 0 := by
  have h0 := h 0 (by omega)
  have h1 := h 1 (by omega)
  have h2 := h 2 (by omega)
  have h3 := h 3 (by omega)
  unfold cj at *
  simp at h0 h1 h2 h3
  unfold pcF roF
  simp [h0, h1, h2, h3]
set_option maxRecDepth 100000 in
set_option maxHeartbeats 8000000 in
theorem pfirst_any (x y : Pk) (g : Nat) (T : TypeId) (w : World) (h : CellsAt w g #[.func (.func 90) #[] #[], .func (.func 92) #[] #[], .func (.func 93) #[] #[], .func (.func 95) #[] #[]] T) : Calls Tryz.prog 89 #[.agg x.pf, .agg y.pf, .slice (some ⟨g, 0, none⟩) 4 4] w fun e w' => e = .returned (.int .i64 (pcF x y)) ∧ GW w w' := by
  have H1 := Lib.hid (fun w => clo1_any x y w)
  have H2 := Lib.hid (fun w => clo2_any x y w)
  have H3 := Lib.hid (fun w => clo3_any x y w)
  have H4 := Lib.hid (fun w => clo4_any x y w)
  have HG := Lib.hid (((GW.refl w).alloc (.cells x.pf 32)).alloc (.cells y.pf 32))
  have HX : Hid (CellsAt ((w.alloc (.cells x.pf 32)).alloc (.cells y.pf 32)) w.heap.size x.pf 32) := (CellsAt.new _ _ _).alloc _
  have HY : Hid (CellsAt ((w.alloc (.cells x.pf 32)).alloc (.cells y.pf 32)) (w.heap.size + 1) y.pf 32) := by
    have h2 := CellsAt.new (w.alloc (.cells x.pf 32)) y.pf 32
    rwa [World.size_alloc] at h2
  have HC : Hid (CellsAt ((w.alloc (.cells x.pf 32)).alloc (.cells y.pf 32)) g #[.func (.func 90) #[] #[], .func (.func 92) #[] #[], .func (.func 93) #[] #[], .func (.func 95) #[] #[]] T) := (h.alloc _).alloc _
  have HAT := Lib.hid (fun j h1 h2 h3 => @pcF_at x y j h1 h2 h3)
  have HNO := Lib.hid (@pcF_no x y)
  have e0 : Hid (cj x y 0 = Lib.compareInt x.fam y.fam) := rfl
  have e1 : Hid (cj x y 1 = Lib.compareInt x.rd y.rd) := rfl
  have e2 : Hid (cj x y 2 = Lib.compareBytes x.addr.data.toList y.addr.data.toList) := rfl
  have e3 : Hid (cj x y 3 = Lib.compareInt x.len y.len) := rfl
  rw [← e0.out] at H1
  rw [← e1.out] at H2
  rw [← e2.out] at H3
  rw [← e3.out] at H4
  generalize pcF x y = PC at HAT HNO ⊢
  clear h e0 e1 e2 e3
  obtain ⟨xf, xr, xa, xl, xi⟩ := x
  obtain ⟨yf, yr, ya, yl, yi⟩ := y
  generalize hcj : cj ⟨xf, xr, xa, xl, xi⟩ ⟨yf, yr, ya, yl, yi⟩ = CJ at *
  clear hcj
  unfold Pk.pf at *
  dsimp only at *
  generalize hV : (w.alloc (.cells #[.int .i64 xf, .int .u64 xr, .string xa, .int .i64 xl] 32)).alloc (.cells #[.int .i64 yf, .int .u64 yr, .string ya, .int .i64 yl] 32) = V at HG HX HY HC
  have HV := Lib.hid hV
  clear hV
  go_enter Tryz.func89, Tryz.ntmps89
  go_upto_region 1 with fail
  rw [HV.out]
  clear HV
  go_wp2_with fail
  go_loopw [12] (fun i wr => ∃ j : Nat, j ≤ 4 ∧ i = .int .i64 j ∧ Hid (GW V wr) ∧ Hid (∀ i, i < j → CJ i = 0)) (fun i _ => 5 - (intOf i).toNat)
  case atStart => exact ⟨0, by omega, rfl, GW.refl _, fun i hi => absurd hi (by omega)⟩
  case round =>
    obtain ⟨j, hj, rfl, HW, HZ⟩ := hrel
    have hbl := HW.out.below
    obtain ⟨x0, x1, x2, x3⟩ := (HX.out.below hbl HX.out.lt).c4
    obtain ⟨y0, y1, y2, y3⟩ := (HY.out.below hbl HY.out.lt).c4
    obtain ⟨g0, g1, g2, g3⟩ := (HC.out.below hbl HC.out.lt).c4
    clear hbl
    by_cases hlt : j < 4
    · rcases (show j = 0 ∨ j = 1 ∨ j = 2 ∨ j = 3 by omega) with rfl | rfl | rfl | rfl
      · go_wp2_with fail
        refine (H1.out _).mono ?_
        rintro e w2 ⟨rfl, hw⟩
        have HW2 : Hid (GW V w2) := HW.out.trans hw
        clear hw x0 x1 x2 x3 y0 y1 y2 y3 g0 g1 g2 g3
        by_cases hz : CJ 0 = 0
        · have z1 : (CJ 0 != 0) = false := by rw [hz]; rfl
          have HZ2 : Hid (∀ i, i < 1 → CJ i = 0) := fun i hi => by
            by_cases e : i = 0
            · rw [e]; exact hz
            · exact HZ.out i (by omega)
          clear hz HZ
          go_wp2_with fail
          exact ⟨⟨1, by omega, by go_num, HW2.out, HZ2.out⟩, by simp [intOf]⟩
        · have z1 : (CJ 0 != 0) = true := by rw [bne_iff_ne]; exact hz
          have HR := Lib.hid (HAT.out 0 (by omega) HZ.out hz)
          clear hz HZ HAT HNO
          generalize CJ 0 = z at z1 HR ⊢
          go_wp2_with fail
          go_ret
          exact ⟨ret_int HR.out.symm, HG.out.trans HW2.out⟩
      · go_wp2_with fail
        refine (H2.out _).mono ?_
        rintro e w2 ⟨rfl, hw⟩
        have HW2 : Hid (GW V w2) := HW.out.trans hw
        clear hw x0 x1 x2 x3 y0 y1 y2 y3 g0 g1 g2 g3
        by_cases hz : CJ 1 = 0
        · have z1 : (CJ 1 != 0) = false := by rw [hz]; rfl
          have HZ2 : Hid (∀ i, i < 2 → CJ i = 0) := fun i hi => by
            by_cases e : i = 1
            · rw [e]; exact hz
            · exact HZ.out i (by omega)
          clear hz HZ
          go_wp2_with fail
          exact ⟨⟨2, by omega, by go_num, HW2.out, HZ2.out⟩, by simp [intOf]⟩
        · have z1 : (CJ 1 != 0) = true := by rw [bne_iff_ne]; exact hz
          have HR := Lib.hid (HAT.out 1 (by omega) HZ.out hz)
          clear hz HZ HAT HNO
          generalize CJ 1 = z at z1 HR ⊢
          go_wp2_with fail
          go_ret
          exact ⟨ret_int HR.out.symm, HG.out.trans HW2.out⟩
      · go_wp2_with fail
        refine (H3.out _).mono ?_
        rintro e w2 ⟨rfl, hw⟩
        have HW2 : Hid (GW V w2) := HW.out.trans hw
        clear hw x0 x1 x2 x3 y0 y1 y2 y3 g0 g1 g2 g3
        by_cases hz : CJ 2 = 0
        · have z1 : (CJ 2 != 0) = false := by rw [hz]; rfl
          have HZ2 : Hid (∀ i, i < 3 → CJ i = 0) := fun i hi => by
            by_cases e : i = 2
            · rw [e]; exact hz
            · exact HZ.out i (by omega)
          clear hz HZ
          go_wp2_with fail
          exact ⟨⟨3, by omega, by go_num, HW2.out, HZ2.out⟩, by simp [intOf]⟩
        · have z1 : (CJ 2 != 0) = true := by rw [bne_iff_ne]; exact hz
          have HR := Lib.hid (HAT.out 2 (by omega) HZ.out hz)
          clear hz HZ HAT HNO
          generalize CJ 2 = z at z1 HR ⊢
          go_wp2_with fail
          go_ret
          exact ⟨ret_int HR.out.symm, HG.out.trans HW2.out⟩
      · go_wp2_with fail
        refine (H4.out _).mono ?_
        rintro e w2 ⟨rfl, hw⟩
        have HW2 : Hid (GW V w2) := HW.out.trans hw
        clear hw x0 x1 x2 x3 y0 y1 y2 y3 g0 g1 g2 g3
        by_cases hz : CJ 3 = 0
        · have z1 : (CJ 3 != 0) = false := by rw [hz]; rfl
          have HZ2 : Hid (∀ i, i < 4 → CJ i = 0) := fun i hi => by
            by_cases e : i = 3
            · rw [e]; exact hz
            · exact HZ.out i (by omega)
          clear hz HZ
          go_wp2_with fail
          exact ⟨⟨4, by omega, by go_num, HW2.out, HZ2.out⟩, by simp [intOf]⟩
        · have z1 : (CJ 3 != 0) = true := by rw [bne_iff_ne]; exact hz
          have HR := Lib.hid (HAT.out 3 (by omega) HZ.out hz)
          clear hz HZ HAT HNO
          generalize CJ 3 = z at z1 HR ⊢
          go_wp2_with fail
          go_ret
          exact ⟨ret_int HR.out.symm, HG.out.trans HW2.out⟩
    · obtain rfl : j = 4 := by omega
      have HR := Lib.hid (HNO.out HZ.out)
      go_wp2_with fail
      go_ret
      exact ⟨ret_int HR.out.symm, HG.out.trans HW.out⟩
set_option maxRecDepth 100000 in
set_option maxHeartbeats 4000000 in
theorem pcmp_any (x y : Pk) (w : World) : Calls Tryz.prog 69 #[.agg x.pf, .agg y.pf] w fun e w' => e = .returned (.int .i64 (pcF x y)) ∧ GW w w' := by
  have HG := Lib.hid (((GW.refl w).alloc (.cells x.pf 32)).alloc (.cells y.pf 32))
  have HX : Hid (CellsAt ((w.alloc (.cells x.pf 32)).alloc (.cells y.pf 32)) w.heap.size x.pf 32) := (CellsAt.new _ _ _).alloc _
  have HY : Hid (CellsAt ((w.alloc (.cells x.pf 32)).alloc (.cells y.pf 32)) (w.heap.size + 1) y.pf 32) := by
    have h2 := CellsAt.new (w.alloc (.cells x.pf 32)) y.pf 32
    rwa [World.size_alloc] at h2
  have HF := Lib.hid (fun g T w h => pfirst_any x y g T w h)
  generalize pcF x y = PC at HF ⊢
  obtain ⟨xf, xr, xa, xl, xi⟩ := x
  obtain ⟨yf, yr, ya, yl, yi⟩ := y
  unfold Pk.pf at *
  dsimp only at *
  generalize hV : (w.alloc (.cells #[.int .i64 xf, .int .u64 xr, .string xa, .int .i64 xl] 32)).alloc (.cells #[.int .i64 yf, .int .u64 yr, .string ya, .int .i64 yl] 32) = V at HG HX HY
  have HV := Lib.hid hV
  clear hV
  go_enter Tryz.func69, Tryz.ntmps69
  go_upto_region 1 with fail
  rw [HV.out]
  clear HV
  obtain ⟨x0, x1, x2, x3⟩ := HX.out.c4
  obtain ⟨y0, y1, y2, y3⟩ := HY.out.c4
  have HN := Lib.hid (fun T => CellsAt.new V #[.func (.func 90) #[] #[], .func (.func 92) #[] #[], .func (.func 93) #[] #[], .func (.func 95) #[] #[]] T)
  have HGN := Lib.hid (fun o => HG.out.alloc o)
  go_wp2_with fail
  refine (HF.out _ _ _ (HN.out _)).mono ?_
  rintro e w2 ⟨rfl, hw⟩
  have HW2 : Hid (GW w w2) := (HGN.out _).trans hw
  clear hw x0 x1 x2 x3 y0 y1 y2 y3
  go_wp2_with fail
  go_ret
  exact ⟨rfl, HW2.out⟩
theorem beqf (x y : Int) : (x = y ∧ (x == y) = true) ∨ (x ≠ y ∧ (x == y) = false) := by
  by_cases h : x = y
  · exact .inl ⟨h, beq_iff_eq.2 h⟩
  · exact .inr ⟨h, beq_eq_false_iff_ne.2 h⟩
set_option maxHeartbeats 4000000 in
theorem ror_any (x y : Int) (b : Nat) (w : World) (h0 : w.cell? ⟨b, 0, none⟩ = some (.int .i64 x)) (h1 : w.cell? ⟨b, 1, none⟩ = some (.int .i64 y)) : Calls Tryz.prog 68 #[.slice (some ⟨b, 0, none⟩) 2 2] w fun e w' => e = .returned (.int .i64 (roF x y)) ∧ w' = w := by
  unfold roF
  rcases beqf x 0 with ⟨k1, k2⟩ | ⟨k1, k2⟩
  · subst k1
    rw [if_pos rfl]
    rcases beqf y 0 with ⟨m1, m2⟩ | ⟨m1, m2⟩
    · subst m1
      go_enter Tryz.func68, Tryz.ntmps68
      go_wp2_with fail
      go_loop [8] (fun x => ∃ k : Nat, k ≤ 2 ∧ x = .int .i64 k) (fun x => 3 - (intOf x).toNat)
      case atStart => exact ⟨0, by omega, rfl⟩
      case round =>
        obtain ⟨k, hk, rfl⟩ := hrel
        rcases (show k = 0 ∨ k = 1 ∨ k = 2 by omega) with rfl | rfl | rfl
        · go_wp2_with fail
          exact ⟨⟨1, by omega, by go_num⟩, by simp [intOf]⟩
        · go_wp2_with fail
          exact ⟨⟨2, by omega, by go_num⟩, by simp [intOf]⟩
        · go_wp2_with fail
          go_ret
          exact ⟨rfl, rfl⟩
    · have m3 : (y != 0) = true := by rw [bne_iff_ne]; exact m1
      go_enter Tryz.func68, Tryz.ntmps68
      go_wp2_with fail
      go_loop [8] (fun x => ∃ k : Nat, k ≤ 1 ∧ x = .int .i64 k) (fun x => 3 - (intOf x).toNat)
      case atStart => exact ⟨0, by omega, rfl⟩
      case round =>
        obtain ⟨k, hk, rfl⟩ := hrel
        rcases (show k = 0 ∨ k = 1 by omega) with rfl | rfl
        · go_wp2_with fail
          exact ⟨⟨1, by omega, by go_num⟩, by simp [intOf]⟩
        · go_wp2_with fail
          go_ret
          exact ⟨rfl, rfl⟩
  · have k3 : (x != 0) = true := by rw [bne_iff_ne]; exact k1
    rw [if_neg k1]
    go_enter Tryz.func68, Tryz.ntmps68
    go_wp2_with fail
    go_loop [8] (fun x => ∃ k : Nat, k ≤ 0 ∧ x = .int .i64 k) (fun x => 3 - (intOf x).toNat)
    case atStart => exact ⟨0, by omega, rfl⟩
    case round =>
      obtain ⟨k, hk, rfl⟩ := hrel
      obtain rfl : k = 0 := by omega
      go_wp2_with fail
      go_ret
      exact ⟨rfl, rfl⟩
set_option maxRecDepth 100000 in
set_option maxHeartbeats 4000000 in
theorem ord_clo (x y : Pk) (w : World) : Calls Tryz.prog 46 #[.agg (Pk.cs x).toArray, .agg (Pk.cs y).toArray] w fun e w' => e = .returned (.int .i64 (cfP x y)) ∧ ∃ q os', w' = grow (w.drewN q) os' := by
  have HP := Lib.hid (fun w => pcmp_any x y w)
  have H3 := Lib.hid (fun w => cmp32 (x.id : Nat) (y.id : Nat) w)
  have HR : Hid (cfP x y = roF (pcF x y) (Lib.compareInt (x.id : Nat) (y.id : Nat))) := rfl
  generalize pcF x y = c1 at HP HR
  generalize cfP x y = PC at HR ⊢
  obtain ⟨xf, xr, xa, xl, xi⟩ := x
  obtain ⟨yf, yr, ya, yl, yi⟩ := y
  dsimp only at H3 HR
  generalize Lib.compareInt (xi : Nat) (yi : Nat) = c2 at H3 HR
  unfold Pk.pf at HP
  dsimp only at HP
  have HS : Hid (CellsAt (((w.alloc (.cells #[.int .i64 xf, .int .u64 xr, .string xa, .int .i64 xl, .int .u32 (xi : Nat)] 83)).alloc (.cells #[.int .i64 yf, .int .u64 yr, .string ya, .int .i64 yl, .int .u32 (yi : Nat)] 83)).drew) w.heap.size #[.int .i64 xf, .int .u64 xr, .string xa, .int .i64 xl, .int .u32 (xi : Nat)] 83 ∧ CellsAt (((w.alloc (.cells #[.int .i64 xf, .int .u64 xr, .string xa, .int .i64 xl, .int .u32 (xi : Nat)] 83)).alloc (.cells #[.int .i64 yf, .int .u64 yr, .string ya, .int .i64 yl, .int .u32 (yi : Nat)] 83)).drew) (w.heap.size + 1) #[.int .i64 yf, .int .u64 yr, .string ya, .int .i64 yl, .int .u32 (yi : Nat)] 83 ∧ GW w (((w.alloc (.cells #[.int .i64 xf, .int .u64 xr, .string xa, .int .i64 xl, .int .u32 (xi : Nat)] 83)).alloc (.cells #[.int .i64 yf, .int .u64 yr, .string ya, .int .i64 yl, .int .u32 (yi : Nat)] 83)).drew)) := by
    have h2 := CellsAt.new (w.alloc (.cells #[.int .i64 xf, .int .u64 xr, .string xa, .int .i64 xl, .int .u32 (xi : Nat)] 83)) #[.int .i64 yf, .int .u64 yr, .string ya, .int .i64 yl, .int .u32 (yi : Nat)] 83
    rw [World.size_alloc] at h2
    exact ⟨((CellsAt.new _ _ _).alloc _).drew 1, h2.drew 1, (((GW.refl w).alloc _).alloc _).drew 1⟩
  show Calls _ _ #[.agg #[.int .i64 xf, .int .u64 xr, .string xa, .int .i64 xl, .int .u32 (xi : Nat)], .agg #[.int .i64 yf, .int .u64 yr, .string ya, .int .i64 yl, .int .u32 (yi : Nat)]] w _
  go_enter Tryz.func46, Tryz.ntmps46
  go_upto_region 1 with fail
  refine wp_region_held_drew (S := fun w' => CellsAt w' w.heap.size #[.int .i64 xf, .int .u64 xr, .string xa, .int .i64 xl, .int .u32 (xi : Nat)] 83 ∧ CellsAt w' (w.heap.size + 1) #[.int .i64 yf, .int .u64 yr, .string ya, .int .i64 yl, .int .u32 (yi : Nat)] 83 ∧ GW w w') (by kernel_rfl) (HS.out) (fun hHeld => ?_)
  refine wpAnyH_take (i := 0) (oi := { dst := some 5, op := Op.fieldAddr 83 (Operand.tmp 2) 0, type := 0, pos := "adjin.go:39", after := #[], guard := none }) (v := ?_) rfl (by kernel_rfl) (by kernel_rfl) (by kernel_rfl) (fun _ _ _ h => h) (Or.inl ⟨by rfl, ?_⟩) hHeld ?_
  rotate_left
  · intro w hSw
    clear hSw
    go_simp
    try with_reducible rfl
  try simp only [Act.put, List.setIfInBounds_toArray, List.set_cons_zero, List.set_cons_succ]
  refine wpAnyH_take (i := 1) (oi := { dst := some 6, op := Op.load 32 (Operand.tmp 5), type := 32, pos := "adjin.go:39", after := #[{ on := 0, ground := Ground.data }], guard := none }) (v := ?_) rfl (by kernel_rfl) (by kernel_rfl) (by kernel_rfl) (fun _ _ _ h => h) (Or.inl ⟨by rfl, ?_⟩) hHeld ?_
  rotate_left
  · intro w hSw
    obtain ⟨q1, q2, q3⟩ := hSw
    obtain ⟨x0, x1, x2, x3, x4⟩ := q1.c5
    obtain ⟨y0, y1, y2, y3, y4⟩ := q2.c5
    go_simp
    try with_reducible rfl
  try simp only [Act.put, List.setIfInBounds_toArray, List.set_cons_zero, List.set_cons_succ]
  refine wpAnyH_take (i := 2) (oi := { dst := some 7, op := Op.fieldAddr 83 (Operand.tmp 3) 0, type := 0, pos := "adjin.go:39", after := #[], guard := none }) (v := ?_) rfl (by kernel_rfl) (by kernel_rfl) (by kernel_rfl) (fun _ _ _ h => h) (Or.inl ⟨by rfl, ?_⟩) hHeld ?_
  rotate_left
  · intro w hSw
    clear hSw
    go_simp
    try with_reducible rfl
  try simp only [Act.put, List.setIfInBounds_toArray, List.set_cons_zero, List.set_cons_succ]
  refine wpAnyH_take (i := 3) (oi := { dst := some 8, op := Op.load 32 (Operand.tmp 7), type := 32, pos := "adjin.go:39", after := #[{ on := 2, ground := Ground.data }], guard := none }) (v := ?_) rfl (by kernel_rfl) (by kernel_rfl) (by kernel_rfl) (fun _ _ _ h => h) (Or.inl ⟨by rfl, ?_⟩) hHeld ?_
  rotate_left
  · intro w hSw
    obtain ⟨q1, q2, q3⟩ := hSw
    obtain ⟨x0, x1, x2, x3, x4⟩ := q1.c5
    obtain ⟨y0, y1, y2, y3, y4⟩ := q2.c5
    go_simp
    try with_reducible rfl
  try simp only [Act.put, List.setIfInBounds_toArray, List.set_cons_zero, List.set_cons_succ]
  refine wpAnyH_take (i := 5) (oi := { dst := some 10, op := Op.fieldAddr 83 (Operand.tmp 2) 1, type := 0, pos := "adjin.go:39", after := #[], guard := none }) (v := ?_) rfl (by kernel_rfl) (by kernel_rfl) (by kernel_rfl) (fun _ _ _ h => h) (Or.inl ⟨by rfl, ?_⟩) hHeld ?_
  rotate_left
  · intro w hSw
    clear hSw
    go_simp
    try with_reducible rfl
  try simp only [Act.put, List.setIfInBounds_toArray, List.set_cons_zero, List.set_cons_succ]
  refine wpAnyH_take (i := 6) (oi := { dst := some 11, op := Op.load 33 (Operand.tmp 10), type := 33, pos := "adjin.go:39", after := #[{ on := 5, ground := Ground.data }], guard := none }) (v := ?_) rfl (by kernel_rfl) (by kernel_rfl) (by kernel_rfl) (fun _ _ _ h => h) (Or.inl ⟨by rfl, ?_⟩) hHeld ?_
  rotate_left
  · intro w hSw
    obtain ⟨q1, q2, q3⟩ := hSw
    obtain ⟨x0, x1, x2, x3, x4⟩ := q1.c5
    obtain ⟨y0, y1, y2, y3, y4⟩ := q2.c5
    go_simp
    try with_reducible rfl
  try simp only [Act.put, List.setIfInBounds_toArray, List.set_cons_zero, List.set_cons_succ]
  refine wpAnyH_take (i := 7) (oi := { dst := some 12, op := Op.fieldAddr 83 (Operand.tmp 3) 1, type := 0, pos := "adjin.go:39", after := #[], guard := none }) (v := ?_) rfl (by kernel_rfl) (by kernel_rfl) (by kernel_rfl) (fun _ _ _ h => h) (Or.inl ⟨by rfl, ?_⟩) hHeld ?_
  rotate_left
  · intro w hSw
    clear hSw
    go_simp
    try with_reducible rfl
  try simp only [Act.put, List.setIfInBounds_toArray, List.set_cons_zero, List.set_cons_succ]
  refine wpAnyH_take (i := 8) (oi := { dst := some 13, op := Op.load 33 (Operand.tmp 12), type := 33, pos := "adjin.go:39", after := #[{ on := 7, ground := Ground.data }], guard := none }) (v := ?_) rfl (by kernel_rfl) (by kernel_rfl) (by kernel_rfl) (fun _ _ _ h => h) (Or.inl ⟨by rfl, ?_⟩) hHeld ?_
  rotate_left
  · intro w hSw
    obtain ⟨q1, q2, q3⟩ := hSw
    obtain ⟨x0, x1, x2, x3, x4⟩ := q1.c5
    obtain ⟨y0, y1, y2, y3, y4⟩ := q2.c5
    go_simp
    try with_reducible rfl
  try simp only [Act.put, List.setIfInBounds_toArray, List.set_cons_zero, List.set_cons_succ]
  refine wpAnyH_ready (rs := [4]) (by kernel_rfl) (by simp) ?_
  refine AllReadyH.cons (o := { dst := some 9, op := Op.call { callee := Callee.value (Operand.func 69), args := #[Operand.tmp 6, Operand.tmp 8], argTypes := #[32, 32] }, type := 3, pos := "adjin.go:39", after := #[{ on := 1, ground := Ground.data }, { on := 3, ground := Ground.data }], guard := none }) rfl (fun K hK => ?_) AllReadyH.nil
  go_simp
  refine (HP.out _).mono ?_
  rintro e w9 ⟨rfl, hw9⟩
  refine hK.out _ _ (And.intro (hHeld.1.below hw9.below hHeld.1.lt) (And.intro (hHeld.2.1.below hw9.below hHeld.2.1.lt) (hHeld.2.2.trans hw9))) (fun hHeld => ?_)
  clear hK K
  try simp only [Act.put, List.setIfInBounds_toArray, List.set_cons_zero, List.set_cons_succ]
  refine wpAnyH_ready (rs := [9]) (by kernel_rfl) (by simp) ?_
  refine AllReadyH.cons (o := { dst := some 14, op := Op.call { callee := Callee.value (Operand.func 52), args := #[Operand.tmp 11, Operand.tmp 13], argTypes := #[33, 33] }, type := 3, pos := "adjin.go:39", after := #[{ on := 6, ground := Ground.data }, { on := 8, ground := Ground.data }, { on := 4, ground := Ground.chain }], guard := none }) rfl (fun K hK => ?_) AllReadyH.nil
  go_simp
  refine (H3.out _).mono ?_
  rintro e w10 ⟨rfl, hw10⟩
  subst w10
  refine hK.out _ _ (hHeld) (fun hHeld => ?_)
  clear hK K
  try simp only [Act.put, List.setIfInBounds_toArray, List.set_cons_zero, List.set_cons_succ]
  refine wpAnyH_ready (rs := [10]) (by kernel_rfl) (by simp) ?_
  refine AllReadyH.cons (o := { dst := some 15, op := Op.buildSlice 140 2 #[(0, Operand.tmp 9), (1, Operand.tmp 14)], type := 140, pos := "adjin.go:39", after := #[{ on := 4, ground := Ground.data }, { on := 9, ground := Ground.data }], guard := none }) rfl (fun K hK => ?_) AllReadyH.nil
  go_simp
  skip
  refine hK.out _ _ (And.intro (hHeld.1.alloc _) (And.intro (hHeld.2.1.alloc _) (hHeld.2.2.alloc _))) (fun hHeld => ?_)
  clear hK K
  try simp only [Act.put, List.setIfInBounds_toArray, List.set_cons_zero, List.set_cons_succ]
  refine wpAnyH_ready (rs := [11]) (by kernel_rfl) (by simp) ?_
  refine AllReadyH.cons (o := { dst := some 16, op := Op.call { callee := Callee.value (Operand.func 68), args := #[Operand.tmp 15], argTypes := #[140] }, type := 3, pos := "adjin.go:39", after := #[{ on := 10, ground := Ground.data }, { on := 9, ground := Ground.chain }], guard := none }) rfl (fun K hK => ?_) AllReadyH.nil
  go_simp
  have HC := (CellsAt.new w9 #[Value.int IntKind.i64 c1, Value.int IntKind.i64 c2] 3).c2
  refine (ror_any c1 c2 _ _ HC.1 HC.2).mono ?_
  rintro e w11 ⟨rfl, hw11⟩
  rw [hw11]
  clear hw11
  refine hK.out _ _ (hHeld) (fun hHeld => ?_)
  clear hK K
  try simp only [Act.put, List.setIfInBounds_toArray, List.set_cons_zero, List.set_cons_succ]
  refine wpAnyH_take (i := 12) (oi := { dst := some 4, op := Op.assign (Operand.tmp 16), type := 3, pos := "adjin.go:39", after := #[{ on := 11, ground := Ground.data }, { on := 11, ground := Ground.chain }, { on := 0, ground := Ground.phase }, { on := 1, ground := Ground.phase }, { on := 2, ground := Ground.phase }, { on := 3, ground := Ground.phase }, { on := 4, ground := Ground.phase }, { on := 5, ground := Ground.phase }, { on := 6, ground := Ground.phase }, { on := 7, ground := Ground.phase }, { on := 8, ground := Ground.phase }, { on := 9, ground := Ground.phase }, { on := 10, ground := Ground.phase }, { on := 11, ground := Ground.phase }], guard := none }) (v := ?_) rfl (by kernel_rfl) (by kernel_rfl) (by kernel_rfl) (fun _ _ _ h => h) (Or.inl ⟨by rfl, ?_⟩) hHeld ?_
  rotate_left
  · intro w hSw
    clear hSw
    go_simp
    try with_reducible rfl
  try simp only [Act.put, List.setIfInBounds_toArray, List.set_cons_zero, List.set_cons_succ]
  refine wpAnyH_done (by kernel_rfl) ?_ _
  have HF := Lib.hid hHeld.2.2
  clear hHeld
  go_wp2_with fail
  go_ret
  exact ⟨ret_int HR.out.symm, HF.out⟩
end Go.Proofs.YtldpcliahfiloaaGreat
