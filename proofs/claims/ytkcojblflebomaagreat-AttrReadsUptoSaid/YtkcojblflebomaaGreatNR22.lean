/-
  Several texts in one.
-/
import Derived.Test.YtkcojblflebomaaGreatNR14
import Derived.Test.YtkcojblflebomaaGreatNR9
import Derived.StillTailTactics
set_option linter.unusedVariables false
set_option linter.unusedSimpArgs false
namespace Go.Proofs.YtkcojblflebomaaGreat
open Go.RowKit Go.MapKept Go.Shelf
open Go.Lib hiding intOf

theorem Tk.more {w w1 : World} {b i : Nat} (h : Tk w w1 b) (u : Value) : Tk w (w1.setCell ⟨b, i, none⟩ u) b :=
  ⟨h.below.setCell (Nat.le_refl b) u, fun q h1 h2 h3 => (Below.heap_setCell w1 ⟨b, i, none⟩ u q h2).trans (h.k q h1 h2 h3)⟩
theorem Tk.from_below {w w1 : World} {b : Nat} (h : Below w.heap.size w w1) (hb : b < w.heap.size) : Tk w w1 b :=
  ⟨h.mono (Nat.le_of_lt hb), fun q h1 _ _ => h.block q h1⟩
theorem hd_u32 (v : ByteArray) : hd v 4 < 4294967296 := Nat.lt_of_lt_of_le (hd_lt v 4) (by decide)
set_option maxRecDepth 100000 in
set_option maxHeartbeats 4000000 in
theorem word_ok (b i j : Nat) (x y : Value) (v : ByteArray) (w : World) (hb : b < w.heap.size) (hx : w.cell? ⟨b, i, none⟩ = some x) (hy : w.cell? ⟨b, j, none⟩ = some y) (fx : w.frozen? ⟨b, i, none⟩ = false) (fy : w.frozen? ⟨b, j, none⟩ = false) (hij : i ≠ j) (hv : v.size = 4) :
    Calls Tryz.prog 78 #[.pointer (some ⟨b, i, none⟩), .pointer (some ⟨b, j, none⟩), .string v] w fun e w' => e = .returned (.bool true) ∧ ∃ w1, Below w.heap.size w w1 ∧ w' = (w1.setCell ⟨b, i, none⟩ (.bool true)).setCell ⟨b, j, none⟩ (.int .u32 (hd v 4 : Nat)) := by
  have HNEW := Lib.hid new_any
  have HNU := Lib.hid number_nx
  have HV := Lib.hid hv
  have z1 : ((v.size : Int) != 4) = false := by rw [hv]; rfl
  have z2 : ((v.size : Int) == 4) = true := by rw [hv]; rfl
  have HX := Lib.hid hx
  have HY := Lib.hid hy
  have HFX := Lib.hid fx
  have HFY := Lib.hid fy
  clear hv hx hy fx fy
  go_enter Tryz.func78, Tryz.ntmps78
  go_wp2_with fail
  refine (HNEW.out v w).mono ?_
  rintro e w1 ⟨rfl, hw1⟩
  have HR1 : Hid (RdAt w1 w.heap.size v) := by
    show RdAt _ _ _
    rw [hw1]
    exact heap_alloc_new w _
  have HB1 : Hid (Below w.heap.size w w1) := by
    rw [hw1]
    exact (Below.refl _ _).alloc (Nat.le_refl _) _
  clear hw1
  go_wp2_with fail
  refine (HNU.out w.heap.size v 4 _ HR1.out (by decide) (by decide) (by rw [HV.out]; exact Nat.le_refl _) (by rw [HV.out]; decide)).mono ?_
  rintro e w2 ⟨rfl, _, hg⟩
  have HB2 : Hid (Below w.heap.size w w2) := HB1.out.grown hg HB1.out.size (fun q hq => by cases hq; exact Nat.le_refl _)
  obtain ⟨n, hn⟩ : ∃ n, n = hd v 4 := ⟨_, rfl⟩
  have hn4 : n < 4294967296 := by rw [hn]; exact hd_u32 v
  rw [← hn]
  have HNE := Lib.hid hn
  clear hg hn
  have zw : IntKind.u32.wrap ((n : Nat) : Int) = ((n : Nat) : Int) := by rw [IntKind.wrap_u32]; omega
  have q1 := (HB2.out.cell (p := ⟨b, i, none⟩) hb).trans HX.out
  have q2 := (HB2.out.cell (p := ⟨b, j, none⟩) hb).trans HY.out
  have hblk := HB2.out.block b hb
  have f1 : w2.frozen? ⟨b, i, none⟩ = false := by
    have h := HFX.out
    simp only [World.frozen?] at h ⊢
    rw [hblk]
    exact h
  have f2 : w2.frozen? ⟨b, j, none⟩ = false := by
    have h := HFY.out
    simp only [World.frozen?] at h ⊢
    rw [hblk]
    exact h
  clear hblk
  go_wp2_with fail
  go_ret
  exact ⟨rfl, w2, HB2.out, by rw [← HNE.out]⟩
set_option maxHeartbeats 4000000 in
theorem word_no (p q : Value) (v : ByteArray) (w : World) (hv : v.size ≠ 4) (hm : v.size ≤ 140737488351232) :
    Calls Tryz.prog 78 #[p, q, .string v] w fun e w' => e = .returned (.bool false) ∧ w = w' := by
  have z1 : ((v.size : Int) != 4) = true := bne_iff_ne.2 (by omega)
  have z2 : ((v.size : Int) == 4) = false := beq_eq_false_iff_ne.2 (by omega)
  clear hv
  go_enter Tryz.func78, Tryz.ntmps78
  go_wp2_with fail
  go_ret
  exact ⟨rfl, rfl⟩
def take4 (v : ByteArray) (c : AtC) : AtC × Bool := if v.size = 4 then ({ c with hasMed := true, med := hd v 4 }, true) else (c, false)
set_option maxRecDepth 100000 in
set_option maxHeartbeats 4000000 in
theorem take4s : Takes 77 (fun v _ c => take4 v c) := by
  intro b c v four w h hm
  obtain ⟨a, hc, ho, hac⟩ := h.x
  have HH := Lib.hid h
  have HC := Lib.hid hc
  have HO := Lib.hid ho
  have HAC := Lib.hid hac
  have hlt := hc.lt
  have HLT := Lib.hid hlt
  by_cases hv : v.size = 4
  · have HT : Hid (take4 v c = ({ c with hasMed := true, med := hd v 4 }, true)) := if_pos hv
    have HW : Hid (Calls Tryz.prog 78 #[.pointer (some ⟨b, 3, none⟩), .pointer (some ⟨b, 4, none⟩), .string v] w.drew fun e w' => e = .returned (.bool true) ∧ ∃ w1, Below w.heap.size w w1 ∧ w' = (w1.setCell ⟨b, 3, none⟩ (.bool true)).setCell ⟨b, 4, none⟩ (.int .u32 (hd v 4 : Nat))) :=
      (word_ok b 3 4 _ _ v w.drew hlt (hc.c 3) (hc.c 4) (hc.unfrozen 3) (hc.unfrozen 4) (by decide) hv).mono fun e w' ⟨h1, w1, h2, h3⟩ => ⟨h1, w1, (below_drewN (Below.refl _ _) 1).trans h2, h3⟩
    clear hv h hc ho hac hlt hm
    go_enter Tryz.func77, Tryz.ntmps77
    go_wp2_with fail
    go_still_tail 7, (by kernel_rfl)
    change wpList _ _ _ _ _ w.drew
    go_wp2_with fail
    refine HW.out.mono ?_
    rintro e w2 ⟨rfl, w1, hb1, rfl⟩
    have HB1 := Lib.hid hb1
    clear hb1
    go_wp2_with fail
    go_ret
    refine ⟨by rw [HT.out]; rfl, ?_, ((Tk.from_below HB1.out HLT.out).more _).more _⟩
    rw [HT.out]
    have h := HO.out.nfit
    have h2 := hd_u32 v
    have h1 : CellsAt w1 b a.ar 40 := HC.out.below HB1.out HLT.out
    exact ⟨⟨{ a with hasMed := true, med := hd v 4 }, (h1.setAt 3 _).setAt 4 _, { ((HO.out.below HB1.out).setc (i := 3) (u := .bool true)).setc (i := 4) (u := .int .u32 (hd v 4 : Nat)) with nfit := ⟨h2, h.2⟩ }, ⟨by rw [← HAC.out.1]; rfl, HAC.out.2⟩⟩⟩
  · have HT : Hid (take4 v c = (c, false)) := if_neg hv
    have HW : Hid (∀ p q, Calls Tryz.prog 78 #[p, q, .string v] w.drew fun e w' => e = .returned (.bool false) ∧ w.drew = w') := fun p q => word_no p q v w.drew hv (by omega)
    clear hv h hc ho hac hlt hm
    go_enter Tryz.func77, Tryz.ntmps77
    go_wp2_with fail
    go_still_tail 7, (by kernel_rfl)
    change wpList _ _ _ _ _ w.drew
    go_wp2_with fail
    refine (HW.out _ _).mono ?_
    rintro e w2 ⟨rfl, rfl⟩
    go_wp2_with fail
    go_ret
    refine ⟨by rw [HT.out]; rfl, ?_, Tk.from_below (below_drewN (Below.refl _ _) 1) HLT.out⟩
    rw [HT.out]
    exact HH.out.below (below_drewN (Below.refl _ _) 1)
def take5 (v : ByteArray) (c : AtC) : AtC × Bool := if v.size = 4 then ({ c with hasPref := true, pref := hd v 4 }, true) else (c, false)
set_option maxRecDepth 100000 in
set_option maxHeartbeats 4000000 in
theorem take5s : Takes 79 (fun v _ c => take5 v c) := by
  intro b c v four w h hm
  obtain ⟨a, hc, ho, hac⟩ := h.x
  have HH := Lib.hid h
  have HC := Lib.hid hc
  have HO := Lib.hid ho
  have HAC := Lib.hid hac
  have hlt := hc.lt
  have HLT := Lib.hid hlt
  by_cases hv : v.size = 4
  · have HT : Hid (take5 v c = ({ c with hasPref := true, pref := hd v 4 }, true)) := if_pos hv
    have HW : Hid (Calls Tryz.prog 78 #[.pointer (some ⟨b, 5, none⟩), .pointer (some ⟨b, 6, none⟩), .string v] w.drew fun e w' => e = .returned (.bool true) ∧ ∃ w1, Below w.heap.size w w1 ∧ w' = (w1.setCell ⟨b, 5, none⟩ (.bool true)).setCell ⟨b, 6, none⟩ (.int .u32 (hd v 4 : Nat))) :=
      (word_ok b 5 6 _ _ v w.drew hlt (hc.c 5) (hc.c 6) (hc.unfrozen 5) (hc.unfrozen 6) (by decide) hv).mono fun e w' ⟨h1, w1, h2, h3⟩ => ⟨h1, w1, (below_drewN (Below.refl _ _) 1).trans h2, h3⟩
    clear hv h hc ho hac hlt hm
    go_enter Tryz.func79, Tryz.ntmps79
    go_wp2_with fail
    go_still_tail 7, (by kernel_rfl)
    change wpList _ _ _ _ _ w.drew
    go_wp2_with fail
    refine HW.out.mono ?_
    rintro e w2 ⟨rfl, w1, hb1, rfl⟩
    have HB1 := Lib.hid hb1
    clear hb1
    go_wp2_with fail
    go_ret
    refine ⟨by rw [HT.out]; rfl, ?_, ((Tk.from_below HB1.out HLT.out).more _).more _⟩
    rw [HT.out]
    have h := HO.out.nfit
    have h2 := hd_u32 v
    have h1 : CellsAt w1 b a.ar 40 := HC.out.below HB1.out HLT.out
    exact ⟨⟨{ a with hasPref := true, pref := hd v 4 }, (h1.setAt 5 _).setAt 6 _, { ((HO.out.below HB1.out).setc (i := 5) (u := .bool true)).setc (i := 6) (u := .int .u32 (hd v 4 : Nat)) with nfit := ⟨h.1, h2, h.2.2⟩ }, ⟨by rw [← HAC.out.1]; rfl, HAC.out.2⟩⟩⟩
  · have HT : Hid (take5 v c = (c, false)) := if_neg hv
    have HW : Hid (∀ p q, Calls Tryz.prog 78 #[p, q, .string v] w.drew fun e w' => e = .returned (.bool false) ∧ w.drew = w') := fun p q => word_no p q v w.drew hv (by omega)
    clear hv h hc ho hac hlt hm
    go_enter Tryz.func79, Tryz.ntmps79
    go_wp2_with fail
    go_still_tail 7, (by kernel_rfl)
    change wpList _ _ _ _ _ w.drew
    go_wp2_with fail
    refine (HW.out _ _).mono ?_
    rintro e w2 ⟨rfl, rfl⟩
    go_wp2_with fail
    go_ret
    refine ⟨by rw [HT.out]; rfl, ?_, Tk.from_below (below_drewN (Below.refl _ _) 1) HLT.out⟩
    rw [HT.out]
    exact HH.out.below (below_drewN (Below.refl _ _) 1)
def take9 (v : ByteArray) (c : AtC) : AtC × Bool := if v.size = 4 then ({ c with hasOrig := true, orig := hd v 4 }, true) else (c, false)
set_option maxRecDepth 100000 in
set_option maxHeartbeats 4000000 in
theorem take9s : Takes 84 (fun v _ c => take9 v c) := by
  intro b c v four w h hm
  obtain ⟨a, hc, ho, hac⟩ := h.x
  have HH := Lib.hid h
  have HC := Lib.hid hc
  have HO := Lib.hid ho
  have HAC := Lib.hid hac
  have hlt := hc.lt
  have HLT := Lib.hid hlt
  by_cases hv : v.size = 4
  · have HT : Hid (take9 v c = ({ c with hasOrig := true, orig := hd v 4 }, true)) := if_pos hv
    have HW : Hid (Calls Tryz.prog 78 #[.pointer (some ⟨b, 13, none⟩), .pointer (some ⟨b, 14, none⟩), .string v] w.drew fun e w' => e = .returned (.bool true) ∧ ∃ w1, Below w.heap.size w w1 ∧ w' = (w1.setCell ⟨b, 13, none⟩ (.bool true)).setCell ⟨b, 14, none⟩ (.int .u32 (hd v 4 : Nat))) :=
      (word_ok b 13 14 _ _ v w.drew hlt (hc.c 13) (hc.c 14) (hc.unfrozen 13) (hc.unfrozen 14) (by decide) hv).mono fun e w' ⟨h1, w1, h2, h3⟩ => ⟨h1, w1, (below_drewN (Below.refl _ _) 1).trans h2, h3⟩
    clear hv h hc ho hac hlt hm
    go_enter Tryz.func84, Tryz.ntmps84
    go_wp2_with fail
    go_still_tail 7, (by kernel_rfl)
    change wpList _ _ _ _ _ w.drew
    go_wp2_with fail
    refine HW.out.mono ?_
    rintro e w2 ⟨rfl, w1, hb1, rfl⟩
    have HB1 := Lib.hid hb1
    clear hb1
    go_wp2_with fail
    go_ret
    refine ⟨by rw [HT.out]; rfl, ?_, ((Tk.from_below HB1.out HLT.out).more _).more _⟩
    rw [HT.out]
    have h := HO.out.nfit
    have h2 := hd_u32 v
    have h1 : CellsAt w1 b a.ar 40 := HC.out.below HB1.out HLT.out
    exact ⟨⟨{ a with hasOrig := true, orig := hd v 4 }, (h1.setAt 13 _).setAt 14 _, { ((HO.out.below HB1.out).setc (i := 13) (u := .bool true)).setc (i := 14) (u := .int .u32 (hd v 4 : Nat)) with nfit := ⟨h.1, h.2.1, h.2.2.1, h.2.2.2.1, h2⟩ }, ⟨by rw [← HAC.out.1]; rfl, HAC.out.2⟩⟩⟩
  · have HT : Hid (take9 v c = (c, false)) := if_neg hv
    have HW : Hid (∀ p q, Calls Tryz.prog 78 #[p, q, .string v] w.drew fun e w' => e = .returned (.bool false) ∧ w.drew = w') := fun p q => word_no p q v w.drew hv (by omega)
    clear hv h hc ho hac hlt hm
    go_enter Tryz.func84, Tryz.ntmps84
    go_wp2_with fail
    go_still_tail 7, (by kernel_rfl)
    change wpList _ _ _ _ _ w.drew
    go_wp2_with fail
    refine (HW.out _ _).mono ?_
    rintro e w2 ⟨rfl, rfl⟩
    go_wp2_with fail
    go_ret
    refine ⟨by rw [HT.out]; rfl, ?_, Tk.from_below (below_drewN (Below.refl _ _) 1) HLT.out⟩
    rw [HT.out]
    exact HH.out.below (below_drewN (Below.refl _ _) 1)
def take6 (v : ByteArray) (c : AtC) : AtC × Bool := ({ c with atomic := v.size == 0 }, v.size == 0)
theorem bytes_none (v : ByteArray) : v.toList.isEmpty = (v.size == 0) := by
  rw [ByteArray.toList_eq]
  have h : v.data.toList.length = v.size := rfl
  rw [← h]
  cases v.data.toList <;> simp
set_option maxHeartbeats 4000000 in
theorem take6s : Takes 80 (fun v _ c => take6 v c) := by
  intro b c v four w h hm
  obtain ⟨a, hc, ho, hac⟩ := h.x
  have HC := Lib.hid hc
  have HO := Lib.hid ho
  have HAC := Lib.hid hac
  have cf := hc.unfrozen 7
  have c7 := (atr_cells hc).2.2.2.2.2.2.2.1
  have hlt := hc.lt
  have z := bytes_none v
  clear hc ho hac h
  generalize hq : (v.size == 0) = q at z
  have HQ : Hid (take6 v c = ({ c with atomic := q }, q)) := by show _ = _; unfold take6; rw [hq]
  clear hq
  go_enter Tryz.func80, Tryz.ntmps80
  go_wp2_with fail
  go_ret
  refine ⟨by rw [HQ.out]; rfl, ?_, Tk.set _ hlt⟩
  rw [HQ.out]
  exact ⟨⟨{ a with atomic := q }, HC.out.setAt 7 _, { HO.out.setc with }, ⟨by rw [← HAC.out.1]; rfl, HAC.out.2⟩⟩⟩
def take7 (v : ByteArray) (four : Bool) (c : AtC) : AtC × Bool := if v.size = sizeOf4 four + 4 ∧ hd v (sizeOf4 four) ≠ 0 then ({ c with aggAs := hd v (sizeOf4 four), aggId := hd (nx v (sizeOf4 four)) 4 }, true) else (c, false)
theorem sizeOf4_cases (four : Bool) : sizeOf4 four = 2 ∨ sizeOf4 four = 4 := by cases four <;> simp [sizeOf4]
set_option maxRecDepth 100000 in
set_option maxHeartbeats 8000000 in
theorem take7s : Takes 81 take7 := by
  intro b c v four w h hm
  obtain ⟨a, hc, ho, hac⟩ := h.x
  have HH := Lib.hid h
  have HC := Lib.hid hc
  have HO := Lib.hid ho
  have HAC := Lib.hid hac
  have hlt := hc.lt
  have HLT := Lib.hid hlt
  have HNEW := Lib.hid new_any
  have HNU := Lib.hid number_nx
  have HNS := Lib.hid number_short
  have HLE := Lib.hid left_any
  obtain ⟨sz, hsz⟩ : ∃ sz, sz = sizeOf4 four := ⟨_, rfl⟩
  have hsz2 : sz = 2 ∨ sz = 4 := by rw [hsz]; exact sizeOf4_cases four
  have HT0 : Hid (take7 v four c = if v.size = sz + 4 ∧ hd v sz ≠ 0 then ({ c with aggAs := hd v sz, aggId := hd (nx v sz) 4 }, true) else (c, false)) := by show _ = _; rw [hsz]; rfl
  have HSZ := Lib.hid hsz
  have s1 : 1 ≤ sz := by omega
  have s2 : sz ≤ 8 := by omega
  clear h hc ho hac hlt hsz
  go_enter Tryz.func81, Tryz.ntmps81
  go_upto_if 13 with fail
  go_cut [7] (fun x wx => x = .int .i64 (sz : Nat) ∧ w = wx)
  case first =>
    cases four with
    | true =>
      go_wp2_with fail
      go_meet
      exact ⟨by rw [HSZ.out]; rfl, rfl⟩
    | false =>
      go_wp2_with fail
      go_meet
      exact ⟨by rw [HSZ.out]; rfl, rfl⟩
  case rest =>
  obtain ⟨rfl, rfl⟩ := hcut
  go_wp2_with fail
  refine (HNEW.out v w).mono ?_
  rintro e w1 ⟨rfl, hw1⟩
  have HR1 : Hid (RdAt w1 w.heap.size v) := by
    show RdAt _ _ _
    rw [hw1]
    exact heap_alloc_new w _
  have HB1 : Hid (Below w.heap.size w w1) := by
    rw [hw1]
    exact (Below.refl _ _).alloc (Nat.le_refl _) _
  clear hw1
  by_cases hfit : sz ≤ v.size
  case neg =>
    have HT : Hid (take7 v four c = (c, false)) := by show _ = _; rw [HT0.out, if_neg (by omega)]
    go_wp2_with fail
    refine (HNS.out w.heap.size v sz _ HR1.out (by omega) (by omega) (by omega) (by omega)).mono ?_
    rintro e w2 ⟨rfl, hr2, hg2⟩
    have HR2 : Hid (RdAt w2 w.heap.size v) := hr2
    have HB2 : Hid (Below w.heap.size w w2) := HB1.out.grown hg2 HB1.out.size (fun q hq => by cases hq; exact Nat.le_refl _)
    clear hr2 hg2
    go_wp2_with fail
    refine (HNS.out w.heap.size v 4 _ HR2.out (by omega) (by omega) (by omega) (by omega)).mono ?_
    rintro e w3 ⟨rfl, hr3, hg3⟩
    have HB3 : Hid (Below w.heap.size w w3) := HB2.out.grown hg3 HB2.out.size (fun q hq => by cases hq; exact Nat.le_refl _)
    clear hr3 hg3
    go_wp2_with fail
    go_ret
    refine ⟨by rw [HT.out]; rfl, ?_, Tk.from_below HB3.out HLT.out⟩
    rw [HT.out]
    exact HH.out.below HB3.out
  go_wp2_with fail
  refine (HNU.out w.heap.size v sz _ HR1.out s1 s2 hfit (by omega)).mono ?_
  rintro e w2 ⟨rfl, hr2, hg2⟩
  have HR2 : Hid (RdAt w2 w.heap.size (nx v sz)) := hr2
  have HB2 : Hid (Below w.heap.size w w2) := HB1.out.grown hg2 HB1.out.size (fun q hq => by cases hq; exact Nat.le_refl _)
  clear hr2 hg2
  have hnz : (nx v sz).size = v.size - sz := nx_size v sz
  obtain ⟨asn, has⟩ : ∃ n, n = hd v sz := ⟨_, rfl⟩
  obtain ⟨u, hu⟩ : ∃ u, u = nx v sz := ⟨_, rfl⟩
  have has4 : asn < 4294967296 := by
    rw [has]
    rcases hsz2 with e | e
    · exact Nat.lt_of_lt_of_le (hd_lt v sz) (by rw [e]; decide)
    · exact Nat.lt_of_lt_of_le (hd_lt v sz) (by rw [e]; decide)
  rw [← hu] at HR2 hnz
  rw [← has]
  rw [← has, ← hu] at HT0
  clear has hu
  by_cases hfit2 : 4 ≤ u.size
  case neg =>
    have HT : Hid (take7 v four c = (c, false)) := by show _ = _; rw [HT0.out, if_neg (by omega)]
    go_wp2_with fail
    refine (HNS.out w.heap.size u 4 _ HR2.out (by omega) (by omega) (by omega) (by omega)).mono ?_
    rintro e w3 ⟨rfl, hr3, hg3⟩
    have HB3 : Hid (Below w.heap.size w w3) := HB2.out.grown hg3 HB2.out.size (fun q hq => by cases hq; exact Nat.le_refl _)
    clear hr3 hg3
    go_wp2_with fail
    go_ret
    refine ⟨by rw [HT.out]; rfl, ?_, Tk.from_below HB3.out HLT.out⟩
    rw [HT.out]
    exact HH.out.below HB3.out
  go_wp2_with fail
  refine (HNU.out w.heap.size u 4 _ HR2.out (by decide) (by decide) hfit2 (by omega)).mono ?_
  rintro e w3 ⟨rfl, hr3, hg3⟩
  have HR3 : Hid (RdAt w3 w.heap.size (nx u 4)) := hr3
  have HB3 : Hid (Below w.heap.size w w3) := HB2.out.grown hg3 HB2.out.size (fun q hq => by cases hq; exact Nat.le_refl _)
  clear hr3 hg3
  obtain ⟨id, hid⟩ : ∃ n, n = hd u 4 := ⟨_, rfl⟩
  have hid4 : id < 4294967296 := by rw [hid]; exact hd_u32 u
  obtain ⟨t, ht⟩ : ∃ t, t = nx u 4 := ⟨_, rfl⟩
  have hts : t.size = u.size - 4 := by rw [ht]; exact nx_size u 4
  rw [← ht] at HR3
  rw [← hid]
  rw [← hid] at HT0
  clear hid ht
  by_cases hz : 0 < t.size
  · have HT : Hid (take7 v four c = (c, false)) := by show _ = _; rw [HT0.out, if_neg (by omega)]
    go_wp2_with fail
    refine (HLE.out w.heap.size t _ HR3.out).mono ?_
    rintro e w4 ⟨rfl, rfl⟩
    go_wp2_with fail
    go_ret
    refine ⟨by rw [HT.out]; rfl, ?_, Tk.from_below HB3.out HLT.out⟩
    rw [HT.out]
    exact HH.out.below HB3.out
  have hz0 : t.size = 0 := by omega
  go_wp2_with fail
  refine (HLE.out w.heap.size t _ HR3.out).mono ?_
  rintro e w4 ⟨rfl, rfl⟩
  by_cases ha : asn = 0
  · have HT : Hid (take7 v four c = (c, false)) := by show _ = _; rw [HT0.out, if_neg (fun e => e.2 ha)]
    have za : ((asn : Nat) : Int) == 0 := by rw [ha]; rfl
    have za' : (((asn : Nat) : Int) == 0) = true := za
    go_wp2_with fail
    go_ret
    refine ⟨by rw [HT.out]; rfl, ?_, Tk.from_below HB3.out HLT.out⟩
    rw [HT.out]
    exact HH.out.below HB3.out
  have HT : Hid (take7 v four c = ({ c with aggAs := asn, aggId := id }, true)) := by show _ = _; rw [HT0.out, if_pos ⟨by omega, ha⟩]
  have za' : (((asn : Nat) : Int) == 0) = false := beq_eq_false_iff_ne.2 (by omega)
  have zw1 : IntKind.u32.wrap ((asn : Nat) : Int) = ((asn : Nat) : Int) := by rw [IntKind.wrap_u32]; omega
  have zw2 : IntKind.u32.wrap ((id : Nat) : Int) = ((id : Nat) : Int) := by rw [IntKind.wrap_u32]; omega
  have HC3 : Hid (CellsAt w4 b a.ar 40) := HC.out.below HB3.out HLT.out
  obtain ⟨c0, c1, c2, c3, c4, c5, c6, c7, c8, c9, c10, c11, c12, c13, c14, c15⟩ := atr_cells HC3.out
  have f8 := HC3.out.unfrozen 8
  have f9 := HC3.out.unfrozen 9
  clear ha hz hfit hfit2
  go_wp2_with fail
  go_ret
  refine ⟨by rw [HT.out]; rfl, ?_, ((Tk.from_below HB3.out HLT.out).more _).more _⟩
  rw [HT.out]
  have h := HO.out.nfit
  exact ⟨⟨{ a with aggAs := asn, aggId := id }, (HC3.out.setAt 8 _).setAt 9 _, { ((HO.out.below HB3.out).setc (i := 8) (u := .int .u32 (asn : Nat))).setc (i := 9) (u := .int .u32 (id : Nat)) with nfit := ⟨h.1, h.2.1, has4, hid4, h.2.2.2.2⟩ }, ⟨by rw [← HAC.out.1]; rfl, HAC.out.2⟩⟩⟩
end Go.Proofs.YtkcojblflebomaaGreat
