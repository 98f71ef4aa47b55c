/-
  Several texts in one.
-/
import Derived.Test.YtojiieghjhjoaaaGreatKN8
import Derived.Deep.RegionHeld3
import Derived.StillTailTactics
import Derived.IntWalk
set_option linter.unusedVariables false
set_option linter.unusedSimpArgs false
namespace Go.Proofs.YtojiieghjhjoaaaGreat
open Go.RowKit Go.MapKept Go.Shelf
open Go.Lib hiding intOf

theorem lg_at {w : World} {A : Option Addr} {l : List Lg} {i : Nat} {x : Lg} (h : Rd w A 3 (l.map Lg.cs)) (hi : l[i]? = some x) : ∃ b off, A = some ⟨b, off, none⟩ ∧ b < w.heap.size ∧ w.cell? ⟨b, off + i * 3, none⟩ = some (.int .u32 (x.g : Nat)) ∧ w.cell? ⟨b, off + i * 3 + 1, none⟩ = some (.int .u32 (x.a : Nat)) ∧ w.cell? ⟨b, off + i * 3 + 2, none⟩ = some (.int .u32 (x.b : Nat)) := by
  obtain ⟨b, off, hA, hb, hc⟩ := h.at_ (i := i) (cs := x.cs) (by rw [List.getElem?_map, hi]; rfl)
  exact ⟨b, off, hA, hb, hc 0 _ rfl, hc 1 _ rfl, hc 2 _ rfl⟩
/-- the first that is not 0 -/
def orI (x y z : Int) : Int := if x = 0 then (if y = 0 then z else y) else x
set_option maxHeartbeats 4000000 in
theorem or3_any (b : Nat) (T : TypeId) (x y z : Int) (w : World) (h : CellsAt w b #[.int .i64 x, .int .i64 y, .int .i64 z] T) :
    Calls Tryz.prog 84 #[.slice (some ⟨b, 0, none⟩) 3 3] w fun e w' => e = .returned (.int .i64 (orI x y z)) ∧ w = w' := by
  obtain ⟨c0, c1, c2⟩ := h.c3
  clear h
  by_cases hx : x = 0
  · have hx1 : (x != 0) = false := by rw [hx]; rfl
    have hx2 : (x == 0) = true := by rw [hx]; rfl
    by_cases hy : y = 0
    · have hy1 : (y != 0) = false := by rw [hy]; rfl
      have hy2 : (y == 0) = true := by rw [hy]; rfl
      have e : orI x y z = z := by unfold orI; rw [if_pos hx, if_pos hy]
      rw [e]
      clear e
      by_cases hz : z = 0
      · subst hz
        subst hx
        subst hy
        go_enter Tryz.func84, Tryz.ntmps84
        go_wp2_with fail
        refine wp_loop_rounds 4 ?_
        rw [rounds_succ]
        go_wp2_with fail
        rw [rounds_succ]
        go_wp2_with fail
        rw [rounds_succ]
        go_wp2_with fail
        rw [rounds_succ]
        go_wp2_with fail
        go_ret
        exact ⟨rfl, rfl⟩
      · have hz1 : (z != 0) = true := by simp [hz]
        have hz2 : (z == 0) = false := by simp [hz]
        subst hx
        subst hy
        clear hz
        go_enter Tryz.func84, Tryz.ntmps84
        go_wp2_with fail
        refine wp_loop_rounds 3 ?_
        rw [rounds_succ]
        go_wp2_with fail
        rw [rounds_succ]
        go_wp2_with fail
        rw [rounds_succ]
        go_wp2_with fail
        go_ret
        exact ⟨rfl, rfl⟩
    · have hy1 : (y != 0) = true := by simp [hy]
      have hy2 : (y == 0) = false := by simp [hy]
      have e : orI x y z = y := by unfold orI; rw [if_pos hx, if_neg hy]
      rw [e]
      clear e hy
      subst hx
      go_enter Tryz.func84, Tryz.ntmps84
      go_wp2_with fail
      refine wp_loop_rounds 2 ?_
      rw [rounds_succ]
      go_wp2_with fail
      rw [rounds_succ]
      go_wp2_with fail
      go_ret
      exact ⟨rfl, rfl⟩
  · have hx1 : (x != 0) = true := by simp [hx]
    have hx2 : (x == 0) = false := by simp [hx]
    have e : orI x y z = x := by unfold orI; rw [if_neg hx]
    rw [e]
    clear e hx
    go_enter Tryz.func84, Tryz.ntmps84
    go_wp2_with fail
    refine wp_loop_rounds 1 ?_
    rw [rounds_succ]
    go_wp2_with fail
    go_ret
    exact ⟨rfl, rfl⟩
/-- the order of two -/
def cmpL (a b : Lg) : Int := orI (cmpI a.g b.g) (cmpI a.a b.a) (cmpI a.b b.b)
theorem cmpI_zero {a b : Nat} : cmpI a b = 0 ↔ a = b := by
  constructor
  · intro h
    rcases Nat.lt_trichotomy a b with h1 | h1 | h1
    · rw [cmpI_lt h1] at h; cases h
    · exact h1
    · rw [cmpI_gt h1] at h; cases h
  · rintro rfl
    exact cmpI_eq a
theorem cmpL_neg (a b : Lg) : decide (0 ≤ cmpL a b) = !ltL a b := by
  unfold cmpL orI ltL
  by_cases h1 : a.g = b.g
  · rw [if_pos (cmpI_zero.2 h1), if_pos h1]
    by_cases h2 : a.a = b.a
    · rw [if_pos (cmpI_zero.2 h2), if_pos h2]
      exact cmpI_neg _ _
    · rw [if_neg (fun e => h2 (cmpI_zero.1 e)), if_neg h2]
      exact cmpI_neg _ _
  · rw [if_neg (fun e => h1 (cmpI_zero.1 e)), if_neg h1]
    exact cmpI_neg _ _

set_option maxRecDepth 100000 in
set_option maxHeartbeats 8000000 in
theorem lorder_any (x y : Lg) (w : World) : Calls Tryz.prog 61 #[.agg #[.int .u32 x.g, .int .u32 x.a, .int .u32 x.b], .agg #[.int .u32 y.g, .int .u32 y.a, .int .u32 y.b]] w fun e w' => e = .returned (.int .i64 (cmpL x y)) ∧ Below w.heap.size w w' := by
  have HCM := Lib.hid cmp_u32
  have HOR := Lib.hid or3_any
  have HX : Hid (CellsAt ((w.alloc (.cells #[.int .u32 x.g, .int .u32 x.a, .int .u32 x.b] 81)).alloc (.cells #[.int .u32 y.g, .int .u32 y.a, .int .u32 y.b] 81)) w.heap.size #[.int .u32 x.g, .int .u32 x.a, .int .u32 x.b] 81) := (CellsAt.new _ _ _).alloc _
  have HY : Hid (CellsAt ((w.alloc (.cells #[.int .u32 x.g, .int .u32 x.a, .int .u32 x.b] 81)).alloc (.cells #[.int .u32 y.g, .int .u32 y.a, .int .u32 y.b] 81)) (w.heap.size + 1) #[.int .u32 y.g, .int .u32 y.a, .int .u32 y.b] 81) := by
    have h := CellsAt.new (w.alloc (.cells #[.int .u32 x.g, .int .u32 x.a, .int .u32 x.b] 81)) #[.int .u32 y.g, .int .u32 y.a, .int .u32 y.b] 81
    rwa [show (w.alloc (.cells #[.int .u32 x.g, .int .u32 x.a, .int .u32 x.b] 81)).heap.size = w.heap.size + 1 by simp] at h
  have HB : Hid (Below w.heap.size w ((w.alloc (.cells #[.int .u32 x.g, .int .u32 x.a, .int .u32 x.b] 81)).alloc (.cells #[.int .u32 y.g, .int .u32 y.a, .int .u32 y.b] 81))) := ((Below.refl _ _).alloc (Nat.le_refl _) _).alloc (by simp) _
  have hcl : Hid (cmpL x y = orI (cmpI x.g y.g) (cmpI x.a y.a) (cmpI x.b y.b)) := rfl
  go_enter Tryz.func61, Tryz.ntmps61
  go_wp2_with fail
  generalize (w.alloc (.cells #[.int .u32 x.g, .int .u32 x.a, .int .u32 x.b] 81)).alloc (.cells #[.int .u32 y.g, .int .u32 y.a, .int .u32 y.b] 81) = W at HX HY HB ⊢
  have hlx := HX.out.lt
  have hly := HY.out.lt
  have hsW := HB.out.size
  obtain ⟨x0, x1, x2⟩ := HX.out.c3
  obtain ⟨y0, y1, y2⟩ := HY.out.c3
  have HCN : Hid (∀ (p q : Nat) (V : World), Calls Tryz.prog 57 #[.int .u32 p, .int .u32 q] V fun e w' => e = .returned (.int .i64 (cmpI p q)) ∧ w' = V) := fun p q V => (HCM.out p q V).mono fun e w' ⟨h1, h2⟩ => ⟨h1, h2.symm⟩
  go_still_tail 15, (by kernel_rfl)
  repeat still_step
  still_call (HCN.out x.g y.g _)
  repeat still_step
  still_call (HCN.out x.a y.a _)
  repeat still_step
  still_call (HCN.out x.b y.b _)
  repeat still_step
  refine wpStill_nil ?_
  change wpList _ _ _ _ _ W.drew
  clear x0 x1 x2 y0 y1 y2
  generalize cmpI x.g y.g = p at hcl ⊢
  generalize cmpI x.a y.a = q at hcl ⊢
  generalize cmpI x.b y.b = r at hcl ⊢
  have HBD : Hid (Below w.heap.size w W.drew) := below_drewN HB.out 1
  clear HB HX HY hlx hly
  generalize W.drew = V at HBD ⊢
  have hsV := HBD.out.size
  go_wp2_with fail
  refine (HOR.out V.heap.size _ p q r _ (CellsAt.new V _ 3)).mono ?_
  rintro e w1 ⟨rfl, rfl⟩
  go_wp2_with fail
  go_ret
  exact ⟨by rw [hcl.out]; rfl, HBD.out.alloc hsV _⟩

end Go.Proofs.YtojiieghjhjoaaaGreat
