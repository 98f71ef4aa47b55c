/-
  Several texts in one.
-/
import Derived.Test.YtojiieghjhjoaaaGreatKN28
set_option linter.unusedVariables false
set_option linter.unusedSimpArgs false
namespace Go.Proofs.YtojiieghjhjoaaaGreat
open Go.RowKit Go.MapKept Go.Shelf
open Go.Lib hiding intOf

theorem inU32 : (Tryz.prog.info? 22).map (fun i => (i.zero, i.size, i.bytes)) = some (some (.int .u32 0), 1, 4) := by kernel_rfl
theorem inSeg : (Tryz.prog.info? 67).map (fun i => (i.zero, i.size, i.bytes)) = some (some (.agg #[.int .i64 0, .slice none 0 0]), 2, 32) := by kernel_rfl
theorem sg_ones (s : Sg) : ∀ u ∈ Sg.cs s, u.oneCell' = true := fun u hu => by
  simp only [Sg.cs, List.mem_cons, List.not_mem_nil, or_false] at hu
  rcases hu with rfl | rfl <;> rfl
theorem u1s_ones (n : Nat) : ∀ u ∈ u1 n, u.oneCell' = true := fun u hu => by
  simp only [u1, List.mem_cons, List.not_mem_nil, or_false] at hu
  rw [hu]; rfl
theorem ones_flat {α : Type} {F : α → List Value} (h : ∀ a, ∀ u ∈ F a, u.oneCell' = true) (l : List α) : ∀ u ∈ l.flatMap F, u.oneCell' = true := fun u hu => by
  obtain ⟨a, _, h2⟩ := List.mem_flatMap.1 hu
  exact h a u h2

set_option maxRecDepth 100000 in
set_option maxHeartbeats 8000000 in
theorem ins_u32 (base : Nat) (v : Value) (xs : List Nat) (x : Nat) (vb : Nat) (w : World) (h : OwnL w base 22 1 u1 v xs) (hb : base ≤ w.heap.size) (hv : CellsAt w vb (u1 x).toArray 22) (hne : v.ownBlock ≠ some vb) (hl : xs.length ≤ 1000000) :
    Calls Tryz.prog 102 #[v, .int .i64 0, .slice (some ⟨vb, 0, none⟩) 1 1] w fun e w' => ∃ A c, e = .returned (.slice A (xs.length + 1) c) ∧ OwnL w' base 22 1 u1 (.slice A (xs.length + 1) c) (x :: xs) ∧ w.grownBy w' v.ownBlock := by
  obtain ⟨i0, hi, hz0, hz1, hz2⟩ := info_parts inU32
  have hfx : (u1 x).length = 1 := u1_len x
  have hfl : (xs.flatMap u1).length = xs.length * 1 := flat_len u1_len xs
  have hsrc : Src Tryz.prog w 29 1 (.slice (some ⟨vb, 0, none⟩) 1 1) 1 (u1 x) := Src.block Tryz.underlying29 hv (by rw [List.size_toArray]; exact hfx.trans (Nat.one_mul _).symm) (fun u hu => u1s_ones x u hu)
  have hvc : ∀ j u, (u1 x)[j]? = some u → w.cell? ⟨vb, j, none⟩ = some u := fun j u hu => by rw [hv.c]; simpa using hu
  have hsz : (Tryz.prog.info? 22).map (·.size) = some 1 := by rw [hi]; simp [hz1]
  rcases Nat.eq_zero_or_pos xs.length with h0 | h0
  · -- nothing stands there
    obtain rfl : xs = [] := List.eq_nil_of_length_eq_zero h0
    have HOWN : Hid (OwnM w base 22 1 v 0 []) := h
    have HSRC := Lib.hid hsrc
    have HI := Lib.hid hi
    have HB := Lib.hid hb
    clear hfl hvc hfx hl hne hsrc hv
    have hform : ∃ A c, v = .slice A 0 c ∧ ∀ W, (Instr.sliceAt 29 (.slice A 0 c) (some (.int .i64 0)) none none).run Tryz.prog W = .ok (.slice A 0 c) W := by
      rcases h.2 with ⟨rfl, _⟩ | ⟨g, cap, cur, fr, rfl, _, _, _, _, hc, _⟩
      · exact ⟨none, 0, rfl, fun W => by simp [go_sem]⟩
      · refine ⟨_, cap, rfl, fun W => ?_⟩
        unfold maxLen at hc
        by_cases hc0 : cap = 0
        · simp [go_sem, hc0, Tryz.sizeOf22]
        · simp [go_sem, hc0, Tryz.sizeOf22]
    obtain ⟨A, c, rfl, hs0⟩ := hform
    clear h
    go_enter Tryz.func102, Tryz.ntmps102
    go_wp2_with (at_builtin; refine wpList_append_m rfl (.tmp 23) (.tmp 24) 29 29 rfl base 22 i0 _ 1 4 Tryz.underlying29 HI.out hz0 hz1 hz2 (by decide) (by decide) _ 0 [] rfl HOWN.out _ 1 (u1 x) rfl HSRC.out (by decide) (by decide) HB.out ?_)
    intro v' w' hown hg hat
    obtain ⟨A', c', rfl⟩ := hown.form
    have HG := Lib.hid hg
    have HO : Hid (OwnL w' base 22 1 u1 (.slice A' 1 c') [x]) := by
      show OwnM _ _ _ _ _ _ _
      rw [List.flatMap_cons, List.flatMap_nil, List.append_nil]
      exact hown
    clear hown hg hat
    go_wp2_with fail
    go_ret
    exact ⟨A', c', rfl, HO.out, HG.out⟩
  · obtain ⟨g, cap, rfl, hgb, hgl, hnc, hcm, hcell, hfrz⟩ := OwnM.cells h h0
    have hgne : vb ≠ g := fun e => hne (by rw [e]; rfl)
    have hcm2 : cap ≤ 9223372036854775807 := hcm
    have hsB := shape_own h
    have hsA := hv.shape
    have hov : ∀ lb cb, (callFunc 127 #[.slice (some ⟨vb, 0, none⟩) 1 1, .slice (some ⟨g, 1, none⟩) lb cb]).run Tryz.prog w = .ok (.value (.bool false)) w := fun lb cb => by
      rw [run_callFunc_extern Tryz.func127 (by kernel_rfl) (by kernel_rfl) (by kernel_rfl) (e := Extern.SlicesOverlaps.overlaps #[29, 29] #[4]) (by kernel_rfl),
        Lib.run_overlaps_apart w 29 4 22 Tryz.underlying29 1 Tryz.sizeOf22 ⟨vb, 0, none⟩ ⟨g, 1, none⟩ 1 1 lb cb hgne 22 22 (u1 x).toArray.size (cap * 1) hsA hsB (by omega) (hv.unfrozen _) (hv.unfrozen _)]
      rfl
    have hs0 : ∀ W, (Instr.sliceAt 29 (.slice (some ⟨g, 0, none⟩) xs.length cap) (some (.int .i64 0)) none none).run Tryz.prog W = .ok (.slice (some ⟨g, 0, none⟩) xs.length cap) W := fun W => by
      have hc0 : ¬ cap = 0 := by omega
      simp [go_sem, hc0, hnc, Tryz.sizeOf22]
    have hq1 : ((0 : Int) == (xs.length : Int)) = false := beq_eq_false_iff_ne.2 (by omega)
    have hq2 : ¬ (0 : Int) = (xs.length : Int) := by omega
    have hq3 : ¬ (0 = xs.length) := by omega
    have hxn : ¬ xs = [] := fun e => by rw [e] at h0; exact absurd h0 (by decide)
    by_cases hroom : xs.length + 1 ≤ cap
    · -- there is room
      have hgt : ¬ ((cap : Int) < (xs.length : Int) + 1) := by omega
      have hgt2 : ¬ (cap < xs.length + 1) := by omega
      have hdd : decide ((cap : Int) < (xs.length : Int) + 1) = false := decide_eq_false hgt
      obtain ⟨ys, hwide⟩ := OwnM.widen h hroom (by omega)
      obtain ⟨hth, hfr⟩ := hwide.there'
      have hyl : ys.length = (xs.length + 1) * 1 := hwide.1
      have hs1 : ∀ W, (Instr.sliceAt 29 (.slice (some ⟨g, 0, none⟩) xs.length cap) none (some (.int .i64 ((xs.length : Int) + 1))) none).run Tryz.prog W = .ok (.slice (some ⟨g, 0, none⟩) (xs.length + 1) cap) W := fun W => by
        have hc1 : (xs.length : Int) + 1 ≤ (cap : Int) := by omega
        have hc2 : (0 : Int) ≤ (xs.length : Int) + 1 := by omega
        have hc3 : ((xs.length : Int) + 1).toNat = xs.length + 1 := by omega
        simp [go_sem, hc1, hc2, hc3]
      have hs2 : ∀ W, (Instr.sliceAt 29 (.slice (some ⟨g, 0, none⟩) (xs.length + 1) cap) (some (.int .i64 1)) none none).run Tryz.prog W = .ok (.slice (some ⟨g, 1, none⟩) xs.length (cap - 1)) W := fun W => by
        have hc0 : ¬ cap = 1 := by omega
        have hc1 : 1 ≤ cap := by omega
        have hd1 : ¬ ((xs.length : Int) + 1 < 1) := by omega
        simp [go_sem, hc0, hc1, hroom, hd1, Tryz.sizeOf22]
      have hs3 : ∀ W, (Instr.sliceAt 29 (.slice (some ⟨g, 0, none⟩) (xs.length + 1) cap) (some (.int .i64 0)) none none).run Tryz.prog W = .ok (.slice (some ⟨g, 0, none⟩) (xs.length + 1) cap) W := fun W => by
        have hc0 : ¬ cap = 0 := by omega
        have hd1 : ¬ ((xs.length : Int) + 1 < 0) := by omega
        simp [go_sem, hc0, hroom, hd1, Tryz.sizeOf22]
      have hcp1 : ∀ ty dc sc, (Builtin.copy_ #[29, 29] ty #[.slice (some ⟨g, 1, none⟩) xs.length dc, .slice (some ⟨g, 0, none⟩) (xs.length + 1) sc]).run Tryz.prog w.drew = .ok (goInt (Nat.min (xs.length + 1) xs.length)) (w.drew.setCells g 1 (xs.flatMap u1)) := fun ty dc sc =>
        run_copy_k w.drew _ _ ty 22 g 1 xs.length dc ⟨g, 0, none⟩ (xs.length + 1) sc (xs.flatMap u1) 1 Tryz.underlying29 hsz (by rw [hfl]; congr 1; simp only [Nat.min_def]; split <;> omega)
          (fun j u hu => by rw [add_flat]; exact hcell j u hu)
          (fun j hj => hth _ (by rw [hfl] at hj; rw [Nat.add_mul]; omega)) (fun j hj => hfr _ (by rw [hfl] at hj; rw [Nat.add_mul]; omega)) (ones_flat u1s_ones xs)
      obtain ⟨W1, hW1⟩ : ∃ W1, W1 = w.drew.setCells g 1 (xs.flatMap u1) := ⟨_, rfl⟩
      have hown1 : OwnM W1 base 22 1 (.slice (some ⟨g, 0, none⟩) (xs.length + 1) cap) (xs.length + 1) (setL ys 1 (xs.flatMap u1)) := by
        rw [hW1]
        exact OwnM.setMany _ _ _ _ hwide.drew (by rw [hfl, Nat.add_mul]; omega)
      obtain ⟨hth1, hfr1⟩ := hown1.there'
      have hcp2 : ∀ ty dc, (Builtin.copy_ #[29, 29] ty #[.slice (some ⟨g, 0, none⟩) (xs.length + 1) dc, .slice (some ⟨vb, 0, none⟩) 1 1]).run Tryz.prog W1 = .ok (goInt (Nat.min 1 (xs.length + 1))) (W1.setCells g 0 (u1 x)) := fun ty dc =>
        run_copy_k W1 _ _ ty 22 g 0 (xs.length + 1) dc ⟨vb, 0, none⟩ 1 1 (u1 x) 1 Tryz.underlying29 hsz (by rw [hfx]; have : Nat.min 1 (xs.length + 1) = 1 := by { simp only [Nat.min_def]; split <;> omega }; rw [this])
          (fun j u hu => by
            rw [add_flat, hW1, World.cell?_setCells_out g _ _ _ _ (fun e _ => absurd e hgne)]
            exact hvc j u hu)
          (fun j hj => by rw [Nat.zero_add]; exact hth1 _ (by rw [hfx] at hj; rw [Nat.add_mul]; omega)) (fun j hj => by rw [Nat.zero_add]; exact hfr1 _ (by rw [hfx] at hj; rw [Nat.add_mul]; omega)) (u1s_ones x)
      have hown2 : OwnL (W1.setCells g 0 (u1 x)) base 22 1 u1 (.slice (some ⟨g, 0, none⟩) (xs.length + 1) cap) (x :: xs) := by
        have h2 := OwnM.setMany (u1 x) 0 W1 _ hown1 (by rw [hfx, Nat.add_mul]; omega)
        have e2 : setL (setL ys 1 (xs.flatMap u1)) 0 (u1 x) = u1 x ++ xs.flatMap u1 := by
          have h3 := setL_front (u1 x) (xs.flatMap u1) ys (by rw [hyl, hfx, hfl, Nat.add_mul]; omega)
          rw [hfx] at h3
          exact h3
        rw [e2] at h2
        exact h2
      have hgrown : w.grownBy (W1.setCells g 0 (u1 x)) (some g) := by
        rw [hW1]
        exact grown_trans (grown_trans (show w.grownBy w.drew (some g) from (grown_of_below (below_drewN (Below.refl w.heap.size w) 1) _)) (grown_setCells g _ _ _)) (grown_setCells g _ _ _)
      have HO := Lib.hid hown2
      have HG := Lib.hid hgrown
      have HC1 := Lib.hid hcp1
      have HC2 := Lib.hid hcp2
      rw [← hW1] at HC1
      clear hown2 hgrown hcp1 hcp2 hown1 hth1 hfr1 hth hfr hwide hyl hvc hfl hfx hsrc hcell hfrz hsA hsB h hv hne hgne hgb hgl hi hz0 hz1 hz2 hsz hW1
      have hwr : IntKind.i64.wrap 1 = 1 := by decide
      have hC2 := HC2.out 3 cap
      have hmix : Tryz.prog.follows .mixedOrders = true := by kernel_rfl
      go_enter Tryz.func102, Tryz.ntmps102
      go_wp2_with (simp only [hov])
      go_region_law_o (refine step_copy_runI rfl _ _ 29 29 rfl (.slice (some ⟨g, 1, none⟩) xs.length (cap - 1)) (.slice (some ⟨g, 0, none⟩) (xs.length + 1) cap) (by simp [Act.eval, Act.put]) (by simp [Act.eval, Act.put]) (HC1.out 3 (cap - 1) cap) ?_)
      go_wp2_with fail
--      go_wp2_with (at_builtin; refine wpList_copy_runI _ rfl (.tmp 80) (.tmp 81) 29 29 rfl (.slice (some ⟨g, 0, none⟩) (xs.length + 1) cap) (.slice (some ⟨vb, 0, none⟩) 1 1) rfl rfl (HC2.out 3 cap) ?_)
      go_ret
      exact ⟨_, cap, rfl, HO.out, HG.out⟩
    · -- a new row
      have hgt : ((cap : Int) < (xs.length : Int) + 1) := by omega
      have hgt2 : (cap < xs.length + 1) := by omega
      have hdd : decide ((cap : Int) < (xs.length : Int) + 1) = true := decide_eq_true hgt
      have hs1 : ∀ W, (Instr.sliceAt 29 (.slice (some ⟨g, 0, none⟩) xs.length cap) none (some (.int .i64 0)) none).run Tryz.prog W = .ok (.slice (some ⟨g, 0, none⟩) 0 cap) W := fun W => by simp [go_sem]
      obtain ⟨G, hG⟩ : ∃ G, G = grownCap w (xs.length + 1) cap 22 := ⟨_, rfl⟩
      have hGn : xs.length + 1 ≤ G := by rw [hG]; exact grownCap_ge w _ _ _
      have hGm : G ≤ maxLen := by rw [hG]; exact grownCap_le_maxLen w (xs.length + 1) cap 22 (by unfold maxLen; omega)
      have hG63 : G ≤ 9223372036854775807 := hGm
      obtain ⟨Z, hZ⟩ : ∃ Z : Array Value, Z = (Value.int .u32 0).cells := ⟨_, rfl⟩
      have hZs : Z.size = 1 := by rw [hZ]; rfl
      obtain ⟨ROW, hROW⟩ : ∃ ROW : Array Value, ROW = ([] : List Value).toArray ++ Builtin.zeroCells Z (xs.length + 1) ++ Builtin.zeroCells Z (G - (xs.length + 1)) := ⟨_, rfl⟩
      have hRs : ROW.size = G * 1 := by
        rw [hROW]
        simp only [Builtin.zeroCells, Array.size_append, List.size_toArray, List.length_nil, Array.size_map, Array.size_range, hZs]
        omega
      obtain ⟨W1, hW1⟩ : ∃ W1, W1 = w.drew.alloc (.cells ROW 22) := ⟨_, rfl⟩
      have hrz : (Builtin.append_ #[29, 3] 29 #[.slice (some ⟨g, 0, none⟩) 0 cap, .int .i64 ((xs.length : Int) + 1)]).run Tryz.prog w = .ok (.slice (some ⟨w.heap.size, 0, none⟩) (xs.length + 1) G) W1 := by
        have hold : (Builtin.firstCells i0.size 0 (.slice (some ⟨g, 0, none⟩) 0 cap)).run Tryz.prog w.drew = .ok ([] : List Value).toArray w.drew := run_firstCells_some (P := Tryz.prog) (w := w.drew) i0.size 0 ⟨g, 0, none⟩ 0 cap [] (by simp) (fun j u hj => by cases hj)
        have h := Lib.run_append_grow_zeros (P := Tryz.prog) w 29 3 29 22 i0 _ .i64 .i64 Tryz.underlying29 Tryz.underlying3 hi hz0 (some ⟨g, 0, none⟩) 0 cap [] hold (xs.length + 1) (by omega) (by rw [hz1]; decide) (by omega) (by omega) (by rw [hz2]; omega) (by rw [hz2, Nat.zero_add]; exact growslice_fits hgt2 (by omega))
        rw [Nat.zero_add, ← hG] at h
        rw [hW1, hROW, hZ]
        exact h
      have hCN : CellsAt W1 w.heap.size ROW 22 := by rw [hW1]; exact CellsAt.new w.drew _ _
      have hBe : Below w.heap.size w W1 := by rw [hW1]; exact (below_drewN (Below.refl w.heap.size w) 1).alloc (Nat.le_refl _) _
      have hO1 := OwnM.newCap (base := base) (n := xs.length + 1) (c := G) (C := 1) hCN hb hRs hGn hGm
      obtain ⟨ys, hys⟩ : ∃ ys, ys = ROW.toList.take ((xs.length + 1) * 1) := ⟨_, rfl⟩
      rw [← hys] at hO1
      have hyl : ys.length = (xs.length + 1) * 1 := hO1.1
      obtain ⟨N, hN⟩ : ∃ N, N = w.heap.size := ⟨_, rfl⟩
      rw [← hN] at hCN hO1 hrz
      have hvN : vb ≠ N := by have := hv.lt; omega
      have hgN : g ≠ N := by omega
      obtain ⟨hth, hfr⟩ := hO1.there'
      obtain ⟨W2, hW2⟩ : ∃ W2, W2 = W1.setCells N 0 (u1 x) := ⟨_, rfl⟩
      have hcpA : (Builtin.copy_ #[29, 29] 3 #[.slice (some ⟨N, 0, none⟩) (xs.length + 1) G, .slice (some ⟨vb, 0, none⟩) 1 1]).run Tryz.prog W1 = .ok (goInt (Nat.min 1 (xs.length + 1))) W2 := by
        rw [hW2]
        exact run_copy_k W1 _ _ _ 22 N 0 (xs.length + 1) G ⟨vb, 0, none⟩ 1 1 (u1 x) 1 Tryz.underlying29 hsz (by rw [hfx]; have : Nat.min 1 (xs.length + 1) = 1 := by { simp only [Nat.min_def]; split <;> omega }; rw [this])
          (fun j u hu => by
            rw [add_flat]
            exact (hBe.cell (p := ⟨vb, j, none⟩) hv.lt).trans (hvc j u hu))
          (fun j hj => by rw [Nat.zero_add]; exact hth _ (by rw [hfx] at hj; rw [Nat.add_mul]; omega)) (fun j hj => by rw [Nat.zero_add]; exact hfr _ (by rw [hfx] at hj; rw [Nat.add_mul]; omega)) (u1s_ones x)
      have hO2 : OwnM W2 base 22 1 (.slice (some ⟨N, 0, none⟩) (xs.length + 1) G) (xs.length + 1) (setL ys 0 (u1 x)) := by
        rw [hW2]
        exact OwnM.setMany _ _ _ _ hO1 (by rw [hfx, Nat.add_mul]; omega)
      obtain ⟨hth2, hfr2⟩ := hO2.there'
      obtain ⟨W3, hW3⟩ : ∃ W3, W3 = W2.drew.setCells N 1 (xs.flatMap u1) := ⟨_, rfl⟩
      have hBe2 : Below w.heap.size w W2 := by rw [hW2]; exact hBe.grown (grown_setCells N _ _ _) hBe.size (fun k hk => by injection hk with hk; omega)
      have hcpB : (Builtin.copy_ #[29, 29] 3 #[.slice (some ⟨N, 1, none⟩) xs.length (G - 1), .slice (some ⟨g, 0, none⟩) xs.length cap]).run Tryz.prog W2.drew = .ok (goInt (Nat.min xs.length xs.length)) W3 := by
        rw [hW3]
        exact run_copy_k W2.drew _ _ _ 22 N 1 xs.length (G - 1) ⟨g, 0, none⟩ xs.length cap (xs.flatMap u1) 1 Tryz.underlying29 hsz (by rw [hfl]; congr 1; simp only [Nat.min_def]; split <;> omega)
          (fun j u hu => by
            rw [add_flat]
            exact (hBe2.cell (p := ⟨g, j, none⟩) hgl).trans (hcell j u hu))
          (fun j hj => hth2 _ (by rw [hfl] at hj; rw [Nat.add_mul]; omega)) (fun j hj => hfr2 _ (by rw [hfl] at hj; rw [Nat.add_mul]; omega)) (ones_flat u1s_ones xs)
      have hO3 : OwnL W3 base 22 1 u1 (.slice (some ⟨N, 0, none⟩) (xs.length + 1) G) (x :: xs) := by
        have h2 := OwnM.setMany (xs.flatMap u1) 1 W2.drew _ hO2.drew (by rw [hfl, Nat.add_mul]; omega)
        have e2 : setL (setL ys 0 (u1 x)) 1 (xs.flatMap u1) = u1 x ++ xs.flatMap u1 := by
          have h3 := setL_back (u1 x) (xs.flatMap u1) ys (by rw [hyl, hfx, hfl, Nat.add_mul]; omega)
          rw [hfx] at h3
          exact h3
        rw [e2] at h2
        rw [hW3]
        exact h2
      have hBe3 : Below w.heap.size w W3 := by
        rw [hW3]
        exact (below_drewN hBe2 1).grown (grown_setCells N _ _ _) hBe2.size (fun k hk => by injection hk with hk; omega)
      have HO := Lib.hid hO3
      have HG : Hid (w.grownBy W3 (some g)) := grown_of_below hBe3 _
      have HCB := Lib.hid hcpB
      have hs2 : ∀ W, (Instr.sliceAt 29 (.slice (some ⟨N, 0, none⟩) (xs.length + 1) G) (some (.int .i64 0)) none none).run Tryz.prog W = .ok (.slice (some ⟨N, 0, none⟩) (xs.length + 1) G) W := fun W => by
        have hc0 : ¬ G = 0 := by omega
        have hd1 : ¬ ((xs.length : Int) + 1 < 0) := by omega
        simp [go_sem, hc0, hGn, hd1, Tryz.sizeOf22]
      have hs3 : ∀ W, (Instr.sliceAt 29 (.slice (some ⟨N, 0, none⟩) (xs.length + 1) G) (some (.int .i64 1)) none none).run Tryz.prog W = .ok (.slice (some ⟨N, 1, none⟩) xs.length (G - 1)) W := fun W => by
        have hc0 : ¬ G = 1 := by omega
        have hc1 : 1 ≤ G := by omega
        have hd1 : ¬ ((xs.length : Int) + 1 < 1) := by omega
        simp [go_sem, hc0, hc1, hGn, hd1, Tryz.sizeOf22]
      clear hO3 hBe3 hcpB hth hfr hth2 hfr2 hO1 hO2 hBe hBe2 hCN hyl hys hW1 hW2 hW3 hRs hROW hZs hZ hvN hgN hN hG hvc hfl hfx hsrc hcell hfrz hsA hsB h hv hne hgne hgb hgl hi hz0 hz1 hz2 hsz hov
      have hwr : IntKind.i64.wrap 1 = 1 := by decide
      have hmix : Tryz.prog.follows .mixedOrders = true := by kernel_rfl
      go_enter Tryz.func102, Tryz.ntmps102
      go_wp2_with (at_builtin; refine Lib.wpList_append_run _ rfl _ _ _ _ rfl _ _ rfl rfl _ _ hrz ?_)
      go_region_law_o (refine step_copy_runI rfl _ _ 29 29 rfl (.slice (some ⟨N, 1, none⟩) xs.length (G - 1)) (.slice (some ⟨g, 0, none⟩) xs.length cap) (by simp [Act.eval, Act.put]) (by simp [Act.eval, Act.put]) HCB.out ?_)
      go_wp2_with fail
      go_ret
      exact ⟨_, G, rfl, HO.out, HG.out⟩
set_option maxRecDepth 100000 in
set_option maxHeartbeats 8000000 in
theorem ins_seg (base : Nat) (v : Value) (xs : List Sg) (x : Sg) (vb : Nat) (w : World) (h : OwnL w base 67 2 Sg.cs v xs) (hb : base ≤ w.heap.size) (hv : CellsAt w vb (Sg.cs x).toArray 67) (hne : v.ownBlock ≠ some vb) (hl : xs.length ≤ 1000000) :
    Calls Tryz.prog 126 #[v, .int .i64 0, .slice (some ⟨vb, 0, none⟩) 1 1] w fun e w' => ∃ A c, e = .returned (.slice A (xs.length + 1) c) ∧ OwnL w' base 67 2 Sg.cs (.slice A (xs.length + 1) c) (x :: xs) ∧ w.grownBy w' v.ownBlock := by
  obtain ⟨i0, hi, hz0, hz1, hz2⟩ := info_parts inSeg
  have hfx : (Sg.cs x).length = 2 := Sg.cs_len x
  have hfl : (xs.flatMap Sg.cs).length = xs.length * 2 := flat_len Sg.cs_len xs
  have hsrc : Src Tryz.prog w 28 2 (.slice (some ⟨vb, 0, none⟩) 1 1) 1 (Sg.cs x) := Src.block Tryz.underlying28 hv (by rw [List.size_toArray]; exact hfx.trans (Nat.one_mul _).symm) (fun u hu => sg_ones x u hu)
  have hvc : ∀ j u, (Sg.cs x)[j]? = some u → w.cell? ⟨vb, j, none⟩ = some u := fun j u hu => by rw [hv.c]; simpa using hu
  have hsz : (Tryz.prog.info? 67).map (·.size) = some 2 := by rw [hi]; simp [hz1]
  rcases Nat.eq_zero_or_pos xs.length with h0 | h0
  · -- nothing stands there
    obtain rfl : xs = [] := List.eq_nil_of_length_eq_zero h0
    have HOWN : Hid (OwnM w base 67 2 v 0 []) := h
    have HSRC := Lib.hid hsrc
    have HI := Lib.hid hi
    have HB := Lib.hid hb
    clear hfl hvc hfx hl hne hsrc hv
    have hform : ∃ A c, v = .slice A 0 c ∧ ∀ W, (Instr.sliceAt 28 (.slice A 0 c) (some (.int .i64 0)) none none).run Tryz.prog W = .ok (.slice A 0 c) W := by
      rcases h.2 with ⟨rfl, _⟩ | ⟨g, cap, cur, fr, rfl, _, _, _, _, hc, _⟩
      · exact ⟨none, 0, rfl, fun W => by simp [go_sem]⟩
      · refine ⟨_, cap, rfl, fun W => ?_⟩
        unfold maxLen at hc
        by_cases hc0 : cap = 0
        · simp [go_sem, hc0, Tryz.sizeOf67]
        · simp [go_sem, hc0, Tryz.sizeOf67]
    obtain ⟨A, c, rfl, hs0⟩ := hform
    clear h
    go_enter Tryz.func126, Tryz.ntmps126
    go_wp2_with (at_builtin; refine wpList_append_m rfl (.tmp 23) (.tmp 24) 28 28 rfl base 67 i0 _ 2 32 Tryz.underlying28 HI.out hz0 hz1 hz2 (by decide) (by decide) _ 0 [] rfl HOWN.out _ 1 (Sg.cs x) rfl HSRC.out (by decide) (by decide) HB.out ?_)
    intro v' w' hown hg hat
    obtain ⟨A', c', rfl⟩ := hown.form
    have HG := Lib.hid hg
    have HO : Hid (OwnL w' base 67 2 Sg.cs (.slice A' 1 c') [x]) := by
      show OwnM _ _ _ _ _ _ _
      rw [List.flatMap_cons, List.flatMap_nil, List.append_nil]
      exact hown
    clear hown hg hat
    go_wp2_with fail
    go_ret
    exact ⟨A', c', rfl, HO.out, HG.out⟩
  · obtain ⟨g, cap, rfl, hgb, hgl, hnc, hcm, hcell, hfrz⟩ := OwnM.cells h h0
    have hgne : vb ≠ g := fun e => hne (by rw [e]; rfl)
    have hcm2 : cap ≤ 9223372036854775807 := hcm
    have hsB := shape_own h
    have hsA := hv.shape
    have hov : ∀ lb cb, (callFunc 140 #[.slice (some ⟨vb, 0, none⟩) 1 1, .slice (some ⟨g, 2, none⟩) lb cb]).run Tryz.prog w = .ok (.value (.bool false)) w := fun lb cb => by
      rw [run_callFunc_extern Tryz.func140 (by kernel_rfl) (by kernel_rfl) (by kernel_rfl) (e := Extern.SlicesOverlaps.overlaps #[28, 28] #[4]) (by kernel_rfl),
        Lib.run_overlaps_apart w 28 4 67 Tryz.underlying28 2 Tryz.sizeOf67 ⟨vb, 0, none⟩ ⟨g, 2, none⟩ 1 1 lb cb hgne 67 67 (Sg.cs x).toArray.size (cap * 2) hsA hsB (by omega) (hv.unfrozen _) (hv.unfrozen _)]
      rfl
    have hs0 : ∀ W, (Instr.sliceAt 28 (.slice (some ⟨g, 0, none⟩) xs.length cap) (some (.int .i64 0)) none none).run Tryz.prog W = .ok (.slice (some ⟨g, 0, none⟩) xs.length cap) W := fun W => by
      have hc0 : ¬ cap = 0 := by omega
      simp [go_sem, hc0, hnc, Tryz.sizeOf67]
    have hq1 : ((0 : Int) == (xs.length : Int)) = false := beq_eq_false_iff_ne.2 (by omega)
    have hq2 : ¬ (0 : Int) = (xs.length : Int) := by omega
    have hq3 : ¬ (0 = xs.length) := by omega
    have hxn : ¬ xs = [] := fun e => by rw [e] at h0; exact absurd h0 (by decide)
    by_cases hroom : xs.length + 1 ≤ cap
    · -- there is room
      have hgt : ¬ ((cap : Int) < (xs.length : Int) + 1) := by omega
      have hgt2 : ¬ (cap < xs.length + 1) := by omega
      have hdd : decide ((cap : Int) < (xs.length : Int) + 1) = false := decide_eq_false hgt
      obtain ⟨ys, hwide⟩ := OwnM.widen h hroom (by omega)
      obtain ⟨hth, hfr⟩ := hwide.there'
      have hyl : ys.length = (xs.length + 1) * 2 := hwide.1
      have hs1 : ∀ W, (Instr.sliceAt 28 (.slice (some ⟨g, 0, none⟩) xs.length cap) none (some (.int .i64 ((xs.length : Int) + 1))) none).run Tryz.prog W = .ok (.slice (some ⟨g, 0, none⟩) (xs.length + 1) cap) W := fun W => by
        have hc1 : (xs.length : Int) + 1 ≤ (cap : Int) := by omega
        have hc2 : (0 : Int) ≤ (xs.length : Int) + 1 := by omega
        have hc3 : ((xs.length : Int) + 1).toNat = xs.length + 1 := by omega
        simp [go_sem, hc1, hc2, hc3]
      have hs2 : ∀ W, (Instr.sliceAt 28 (.slice (some ⟨g, 0, none⟩) (xs.length + 1) cap) (some (.int .i64 1)) none none).run Tryz.prog W = .ok (.slice (some ⟨g, 2, none⟩) xs.length (cap - 1)) W := fun W => by
        have hc0 : ¬ cap = 1 := by omega
        have hc1 : 1 ≤ cap := by omega
        have hd1 : ¬ ((xs.length : Int) + 1 < 1) := by omega
        simp [go_sem, hc0, hc1, hroom, hd1, Tryz.sizeOf67]
      have hs3 : ∀ W, (Instr.sliceAt 28 (.slice (some ⟨g, 0, none⟩) (xs.length + 1) cap) (some (.int .i64 0)) none none).run Tryz.prog W = .ok (.slice (some ⟨g, 0, none⟩) (xs.length + 1) cap) W := fun W => by
        have hc0 : ¬ cap = 0 := by omega
        have hd1 : ¬ ((xs.length : Int) + 1 < 0) := by omega
        simp [go_sem, hc0, hroom, hd1, Tryz.sizeOf67]
      have hcp1 : ∀ ty dc sc, (Builtin.copy_ #[28, 28] ty #[.slice (some ⟨g, 2, none⟩) xs.length dc, .slice (some ⟨g, 0, none⟩) (xs.length + 1) sc]).run Tryz.prog w.drew = .ok (goInt (Nat.min (xs.length + 1) xs.length)) (w.drew.setCells g 2 (xs.flatMap Sg.cs)) := fun ty dc sc =>
        run_copy_k w.drew _ _ ty 67 g 2 xs.length dc ⟨g, 0, none⟩ (xs.length + 1) sc (xs.flatMap Sg.cs) 2 Tryz.underlying28 hsz (by rw [hfl]; congr 1; simp only [Nat.min_def]; split <;> omega)
          (fun j u hu => by rw [add_flat]; exact hcell j u hu)
          (fun j hj => hth _ (by rw [hfl] at hj; rw [Nat.add_mul]; omega)) (fun j hj => hfr _ (by rw [hfl] at hj; rw [Nat.add_mul]; omega)) (ones_flat sg_ones xs)
      obtain ⟨W1, hW1⟩ : ∃ W1, W1 = w.drew.setCells g 2 (xs.flatMap Sg.cs) := ⟨_, rfl⟩
      have hown1 : OwnM W1 base 67 2 (.slice (some ⟨g, 0, none⟩) (xs.length + 1) cap) (xs.length + 1) (setL ys 2 (xs.flatMap Sg.cs)) := by
        rw [hW1]
        exact OwnM.setMany _ _ _ _ hwide.drew (by rw [hfl, Nat.add_mul]; omega)
      obtain ⟨hth1, hfr1⟩ := hown1.there'
      have hcp2 : ∀ ty dc, (Builtin.copy_ #[28, 28] ty #[.slice (some ⟨g, 0, none⟩) (xs.length + 1) dc, .slice (some ⟨vb, 0, none⟩) 1 1]).run Tryz.prog W1 = .ok (goInt (Nat.min 1 (xs.length + 1))) (W1.setCells g 0 (Sg.cs x)) := fun ty dc =>
        run_copy_k W1 _ _ ty 67 g 0 (xs.length + 1) dc ⟨vb, 0, none⟩ 1 1 (Sg.cs x) 2 Tryz.underlying28 hsz (by rw [hfx]; have : Nat.min 1 (xs.length + 1) = 1 := by { simp only [Nat.min_def]; split <;> omega }; rw [this])
          (fun j u hu => by
            rw [add_flat, hW1, World.cell?_setCells_out g _ _ _ _ (fun e _ => absurd e hgne)]
            exact hvc j u hu)
          (fun j hj => by rw [Nat.zero_add]; exact hth1 _ (by rw [hfx] at hj; rw [Nat.add_mul]; omega)) (fun j hj => by rw [Nat.zero_add]; exact hfr1 _ (by rw [hfx] at hj; rw [Nat.add_mul]; omega)) (sg_ones x)
      have hown2 : OwnL (W1.setCells g 0 (Sg.cs x)) base 67 2 Sg.cs (.slice (some ⟨g, 0, none⟩) (xs.length + 1) cap) (x :: xs) := by
        have h2 := OwnM.setMany (Sg.cs x) 0 W1 _ hown1 (by rw [hfx, Nat.add_mul]; omega)
        have e2 : setL (setL ys 2 (xs.flatMap Sg.cs)) 0 (Sg.cs x) = Sg.cs x ++ xs.flatMap Sg.cs := by
          have h3 := setL_front (Sg.cs x) (xs.flatMap Sg.cs) ys (by rw [hyl, hfx, hfl, Nat.add_mul]; omega)
          rw [hfx] at h3
          exact h3
        rw [e2] at h2
        exact h2
      have hgrown : w.grownBy (W1.setCells g 0 (Sg.cs x)) (some g) := by
        rw [hW1]
        exact grown_trans (grown_trans (show w.grownBy w.drew (some g) from (grown_of_below (below_drewN (Below.refl w.heap.size w) 1) _)) (grown_setCells g _ _ _)) (grown_setCells g _ _ _)
      have HO := Lib.hid hown2
      have HG := Lib.hid hgrown
      have HC1 := Lib.hid hcp1
      have HC2 := Lib.hid hcp2
      rw [← hW1] at HC1
      clear hown2 hgrown hcp1 hcp2 hown1 hth1 hfr1 hth hfr hwide hyl hvc hfl hfx hsrc hcell hfrz hsA hsB h hv hne hgne hgb hgl hi hz0 hz1 hz2 hsz hW1
      have hwr : IntKind.i64.wrap 1 = 1 := by decide
      have hC2 := HC2.out 3 cap
      have hmix : Tryz.prog.follows .mixedOrders = true := by kernel_rfl
      go_enter Tryz.func126, Tryz.ntmps126
      go_wp2_with (simp only [hov])
      go_region_law_o (refine step_copy_runI rfl _ _ 28 28 rfl (.slice (some ⟨g, 2, none⟩) xs.length (cap - 1)) (.slice (some ⟨g, 0, none⟩) (xs.length + 1) cap) (by simp [Act.eval, Act.put]) (by simp [Act.eval, Act.put]) (HC1.out 3 (cap - 1) cap) ?_)
      go_wp2_with fail
--      go_wp2_with (at_builtin; refine wpList_copy_runI _ rfl (.tmp 80) (.tmp 81) 28 28 rfl (.slice (some ⟨g, 0, none⟩) (xs.length + 1) cap) (.slice (some ⟨vb, 0, none⟩) 1 1) rfl rfl (HC2.out 3 cap) ?_)
      go_ret
      exact ⟨_, cap, rfl, HO.out, HG.out⟩
    · -- a new row
      have hgt : ((cap : Int) < (xs.length : Int) + 1) := by omega
      have hgt2 : (cap < xs.length + 1) := by omega
      have hdd : decide ((cap : Int) < (xs.length : Int) + 1) = true := decide_eq_true hgt
      have hs1 : ∀ W, (Instr.sliceAt 28 (.slice (some ⟨g, 0, none⟩) xs.length cap) none (some (.int .i64 0)) none).run Tryz.prog W = .ok (.slice (some ⟨g, 0, none⟩) 0 cap) W := fun W => by simp [go_sem]
      obtain ⟨G, hG⟩ : ∃ G, G = grownCap w (xs.length + 1) cap 67 := ⟨_, rfl⟩
      have hGn : xs.length + 1 ≤ G := by rw [hG]; exact grownCap_ge w _ _ _
      have hGm : G ≤ maxLen := by rw [hG]; exact grownCap_le_maxLen w (xs.length + 1) cap 67 (by unfold maxLen; omega)
      have hG63 : G ≤ 9223372036854775807 := hGm
      obtain ⟨Z, hZ⟩ : ∃ Z : Array Value, Z = (Value.agg #[.int .i64 0, .slice none 0 0]).cells := ⟨_, rfl⟩
      have hZs : Z.size = 2 := by rw [hZ]; rfl
      obtain ⟨ROW, hROW⟩ : ∃ ROW : Array Value, ROW = ([] : List Value).toArray ++ Builtin.zeroCells Z (xs.length + 1) ++ Builtin.zeroCells Z (G - (xs.length + 1)) := ⟨_, rfl⟩
      have hRs : ROW.size = G * 2 := by
        rw [hROW]
        simp only [Builtin.zeroCells, Array.size_append, List.size_toArray, List.length_nil, Array.size_map, Array.size_range, hZs]
        omega
      obtain ⟨W1, hW1⟩ : ∃ W1, W1 = w.drew.alloc (.cells ROW 67) := ⟨_, rfl⟩
      have hrz : (Builtin.append_ #[28, 3] 28 #[.slice (some ⟨g, 0, none⟩) 0 cap, .int .i64 ((xs.length : Int) + 1)]).run Tryz.prog w = .ok (.slice (some ⟨w.heap.size, 0, none⟩) (xs.length + 1) G) W1 := by
        have hold : (Builtin.firstCells i0.size 0 (.slice (some ⟨g, 0, none⟩) 0 cap)).run Tryz.prog w.drew = .ok ([] : List Value).toArray w.drew := run_firstCells_some (P := Tryz.prog) (w := w.drew) i0.size 0 ⟨g, 0, none⟩ 0 cap [] (by simp) (fun j u hj => by cases hj)
        have h := Lib.run_append_grow_zeros (P := Tryz.prog) w 28 3 28 67 i0 _ .i64 .i64 Tryz.underlying28 Tryz.underlying3 hi hz0 (some ⟨g, 0, none⟩) 0 cap [] hold (xs.length + 1) (by omega) (by rw [hz1]; decide) (by omega) (by omega) (by rw [hz2]; omega) (by rw [hz2, Nat.zero_add]; exact growslice_fits hgt2 (by omega))
        rw [Nat.zero_add, ← hG] at h
        rw [hW1, hROW, hZ]
        exact h
      have hCN : CellsAt W1 w.heap.size ROW 67 := by rw [hW1]; exact CellsAt.new w.drew _ _
      have hBe : Below w.heap.size w W1 := by rw [hW1]; exact (below_drewN (Below.refl w.heap.size w) 1).alloc (Nat.le_refl _) _
      have hO1 := OwnM.newCap (base := base) (n := xs.length + 1) (c := G) (C := 2) hCN hb hRs hGn hGm
      obtain ⟨ys, hys⟩ : ∃ ys, ys = ROW.toList.take ((xs.length + 1) * 2) := ⟨_, rfl⟩
      rw [← hys] at hO1
      have hyl : ys.length = (xs.length + 1) * 2 := hO1.1
      obtain ⟨N, hN⟩ : ∃ N, N = w.heap.size := ⟨_, rfl⟩
      rw [← hN] at hCN hO1 hrz
      have hvN : vb ≠ N := by have := hv.lt; omega
      have hgN : g ≠ N := by omega
      obtain ⟨hth, hfr⟩ := hO1.there'
      obtain ⟨W2, hW2⟩ : ∃ W2, W2 = W1.setCells N 0 (Sg.cs x) := ⟨_, rfl⟩
      have hcpA : (Builtin.copy_ #[28, 28] 3 #[.slice (some ⟨N, 0, none⟩) (xs.length + 1) G, .slice (some ⟨vb, 0, none⟩) 1 1]).run Tryz.prog W1 = .ok (goInt (Nat.min 1 (xs.length + 1))) W2 := by
        rw [hW2]
        exact run_copy_k W1 _ _ _ 67 N 0 (xs.length + 1) G ⟨vb, 0, none⟩ 1 1 (Sg.cs x) 2 Tryz.underlying28 hsz (by rw [hfx]; have : Nat.min 1 (xs.length + 1) = 1 := by { simp only [Nat.min_def]; split <;> omega }; rw [this])
          (fun j u hu => by
            rw [add_flat]
            exact (hBe.cell (p := ⟨vb, j, none⟩) hv.lt).trans (hvc j u hu))
          (fun j hj => by rw [Nat.zero_add]; exact hth _ (by rw [hfx] at hj; rw [Nat.add_mul]; omega)) (fun j hj => by rw [Nat.zero_add]; exact hfr _ (by rw [hfx] at hj; rw [Nat.add_mul]; omega)) (sg_ones x)
      have hO2 : OwnM W2 base 67 2 (.slice (some ⟨N, 0, none⟩) (xs.length + 1) G) (xs.length + 1) (setL ys 0 (Sg.cs x)) := by
        rw [hW2]
        exact OwnM.setMany _ _ _ _ hO1 (by rw [hfx, Nat.add_mul]; omega)
      obtain ⟨hth2, hfr2⟩ := hO2.there'
      obtain ⟨W3, hW3⟩ : ∃ W3, W3 = W2.drew.setCells N 2 (xs.flatMap Sg.cs) := ⟨_, rfl⟩
      have hBe2 : Below w.heap.size w W2 := by rw [hW2]; exact hBe.grown (grown_setCells N _ _ _) hBe.size (fun k hk => by injection hk with hk; omega)
      have hcpB : (Builtin.copy_ #[28, 28] 3 #[.slice (some ⟨N, 2, none⟩) xs.length (G - 1), .slice (some ⟨g, 0, none⟩) xs.length cap]).run Tryz.prog W2.drew = .ok (goInt (Nat.min xs.length xs.length)) W3 := by
        rw [hW3]
        exact run_copy_k W2.drew _ _ _ 67 N 2 xs.length (G - 1) ⟨g, 0, none⟩ xs.length cap (xs.flatMap Sg.cs) 2 Tryz.underlying28 hsz (by rw [hfl]; congr 1; simp only [Nat.min_def]; split <;> omega)
          (fun j u hu => by
            rw [add_flat]
            exact (hBe2.cell (p := ⟨g, j, none⟩) hgl).trans (hcell j u hu))
          (fun j hj => hth2 _ (by rw [hfl] at hj; rw [Nat.add_mul]; omega)) (fun j hj => hfr2 _ (by rw [hfl] at hj; rw [Nat.add_mul]; omega)) (ones_flat sg_ones xs)
      have hO3 : OwnL W3 base 67 2 Sg.cs (.slice (some ⟨N, 0, none⟩) (xs.length + 1) G) (x :: xs) := by
        have h2 := OwnM.setMany (xs.flatMap Sg.cs) 2 W2.drew _ hO2.drew (by rw [hfl, Nat.add_mul]; omega)
        have e2 : setL (setL ys 0 (Sg.cs x)) 2 (xs.flatMap Sg.cs) = Sg.cs x ++ xs.flatMap Sg.cs := by
          have h3 := setL_back (Sg.cs x) (xs.flatMap Sg.cs) ys (by rw [hyl, hfx, hfl, Nat.add_mul]; omega)
          rw [hfx] at h3
          exact h3
        rw [e2] at h2
        rw [hW3]
        exact h2
      have hBe3 : Below w.heap.size w W3 := by
        rw [hW3]
        exact (below_drewN hBe2 1).grown (grown_setCells N _ _ _) hBe2.size (fun k hk => by injection hk with hk; omega)
      have HO := Lib.hid hO3
      have HG : Hid (w.grownBy W3 (some g)) := grown_of_below hBe3 _
      have HCB := Lib.hid hcpB
      have hs2 : ∀ W, (Instr.sliceAt 28 (.slice (some ⟨N, 0, none⟩) (xs.length + 1) G) (some (.int .i64 0)) none none).run Tryz.prog W = .ok (.slice (some ⟨N, 0, none⟩) (xs.length + 1) G) W := fun W => by
        have hc0 : ¬ G = 0 := by omega
        have hd1 : ¬ ((xs.length : Int) + 1 < 0) := by omega
        simp [go_sem, hc0, hGn, hd1, Tryz.sizeOf67]
      have hs3 : ∀ W, (Instr.sliceAt 28 (.slice (some ⟨N, 0, none⟩) (xs.length + 1) G) (some (.int .i64 1)) none none).run Tryz.prog W = .ok (.slice (some ⟨N, 2, none⟩) xs.length (G - 1)) W := fun W => by
        have hc0 : ¬ G = 1 := by omega
        have hc1 : 1 ≤ G := by omega
        have hd1 : ¬ ((xs.length : Int) + 1 < 1) := by omega
        simp [go_sem, hc0, hc1, hGn, hd1, Tryz.sizeOf67]
      clear hO3 hBe3 hcpB hth hfr hth2 hfr2 hO1 hO2 hBe hBe2 hCN hyl hys hW1 hW2 hW3 hRs hROW hZs hZ hvN hgN hN hG hvc hfl hfx hsrc hcell hfrz hsA hsB h hv hne hgne hgb hgl hi hz0 hz1 hz2 hsz hov
      have hwr : IntKind.i64.wrap 1 = 1 := by decide
      have hmix : Tryz.prog.follows .mixedOrders = true := by kernel_rfl
      go_enter Tryz.func126, Tryz.ntmps126
      go_wp2_with (at_builtin; refine Lib.wpList_append_run _ rfl _ _ _ _ rfl _ _ rfl rfl _ _ hrz ?_)
      go_region_law_o (refine step_copy_runI rfl _ _ 28 28 rfl (.slice (some ⟨N, 2, none⟩) xs.length (G - 1)) (.slice (some ⟨g, 0, none⟩) xs.length cap) (by simp [Act.eval, Act.put]) (by simp [Act.eval, Act.put]) HCB.out ?_)
      go_wp2_with fail
      go_ret
      exact ⟨_, G, rfl, HO.out, HG.out⟩
end Go.Proofs.YtojiieghjhjoaaaGreat
