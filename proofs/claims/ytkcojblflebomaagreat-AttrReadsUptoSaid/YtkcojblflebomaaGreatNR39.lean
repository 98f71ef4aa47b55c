/-
  Several texts in one.
-/
import Derived.Test.YtkcojblflebomaaGreatNR38
set_option linter.unusedVariables false
set_option linter.unusedSimpArgs false
namespace Go.Proofs.YtkcojblflebomaaGreat
open Go.RowKit Go.MapKept Go.Shelf
open Go.Lib hiding intOf
open Go.Sort hiding Below

theorem new3 (w : World) (x y : Obj) (cs : Array Value) (T : TypeId) : CellsAt (((w.alloc x).alloc y).alloc (.cells cs T)) (w.heap.size + 1 + 1) cs T := by
  have h := CellsAt.new ((w.alloc x).alloc y) cs T
  rwa [show ((w.alloc x).alloc y).heap.size = w.heap.size + 1 + 1 by simp] at h
theorem new2 (w : World) (x z : Obj) (cs : Array Value) (T : TypeId) : CellsAt (((w.alloc x).alloc (.cells cs T)).alloc z) (w.heap.size + 1) cs T := by
  have h := CellsAt.new (w.alloc x) cs T
  rw [show (w.alloc x).heap.size = w.heap.size + 1 by simp] at h
  exact h.alloc _
theorem below3 (w : World) (x y z : Obj) : Below w.heap.size w (((w.alloc x).alloc y).alloc z) := (((Below.refl _ _).alloc (Nat.le_refl _) _).alloc (by simp) _).alloc (by simp <;> omega) _
set_option maxRecDepth 100000 in
set_option maxHeartbeats 4000000 in
theorem rworse_any (v x : Vd) (w : World) : Calls Tryz.prog 40 #[.agg #[.int .i64 v.act, .int .u8 v.code, .int .u8 v.sub], .agg #[.int .i64 x.act, .int .u8 x.code, .int .u8 x.sub]] w fun e w' => e = .returned (.agg #[.int .i64 (judgeF v x).act, .int .u8 (judgeF v x).code, .int .u8 (judgeF v x).sub]) ∧ Below w.heap.size w w' := by
  obtain ⟨a1, b1, c1⟩ := v
  obtain ⟨a2, b2, c2⟩ := x
  show Calls _ _ #[.agg #[.int .i64 a1, .int .u8 b1, .int .u8 c1], .agg #[.int .i64 a2, .int .u8 b2, .int .u8 c2]] w _
  by_cases h : a1 < a2
  · have HJ : Hid (judgeF ⟨a1, b1, c1⟩ ⟨a2, b2, c2⟩ = ⟨a2, b2, c2⟩) := if_pos h
    generalize judgeF ⟨a1, b1, c1⟩ ⟨a2, b2, c2⟩ = R at HJ ⊢
    go_enter Tryz.func40, Tryz.ntmps40
    go_wp2_with fail
    exact bodyPost_ret (results_cell_row rfl _ _ (w.heap.size + 1 + 1) 42 #[.int .i64 a2, .int .u8 b2, .int .u8 c2] (0, 0) _ rfl (new3 _ _ _ _ _) Tryz.underlying42 rfl verdict_size) rfl ⟨by rw [HJ.out], below3 _ _ _ _⟩
  · have HJ : Hid (judgeF ⟨a1, b1, c1⟩ ⟨a2, b2, c2⟩ = ⟨a1, b1, c1⟩) := if_neg h
    generalize judgeF ⟨a1, b1, c1⟩ ⟨a2, b2, c2⟩ = R at HJ ⊢
    go_enter Tryz.func40, Tryz.ntmps40
    go_wp2_with fail
    exact bodyPost_ret (results_cell_row rfl _ _ (w.heap.size + 1 + 1) 42 #[.int .i64 a1, .int .u8 b1, .int .u8 c1] (0, 0) _ rfl (new3 _ _ _ _ _) Tryz.underlying42 rfl verdict_size) rfl ⟨by rw [HJ.out], below3 _ _ _ _⟩
def bitsV (t : Nat) : Int := match rowF t with
  | none => 0
  | some (b, _, _, _) => b
theorem rbits_1 (w : World) : Calls Tryz.prog 90 #[.int .u8 1] w fun e w' => e = .returned (.int .u8 (bitsV 1)) ∧ w' = w := by
  show Calls _ _ _ _ fun e w' => e = .returned (.int .u8 64) ∧ w' = w
  go_enter Tryz.func90, Tryz.ntmps90
  go_wp2_with fail
  go_ret
  exact ⟨rfl, rfl⟩
theorem rbits_2 (w : World) : Calls Tryz.prog 90 #[.int .u8 2] w fun e w' => e = .returned (.int .u8 (bitsV 2)) ∧ w' = w := by
  show Calls _ _ _ _ fun e w' => e = .returned (.int .u8 64) ∧ w' = w
  go_enter Tryz.func90, Tryz.ntmps90
  go_wp2_with fail
  go_ret
  exact ⟨rfl, rfl⟩
theorem rbits_3 (w : World) : Calls Tryz.prog 90 #[.int .u8 3] w fun e w' => e = .returned (.int .u8 (bitsV 3)) ∧ w' = w := by
  show Calls _ _ _ _ fun e w' => e = .returned (.int .u8 64) ∧ w' = w
  go_enter Tryz.func90, Tryz.ntmps90
  go_wp2_with fail
  go_ret
  exact ⟨rfl, rfl⟩
theorem rbits_5 (w : World) : Calls Tryz.prog 90 #[.int .u8 5] w fun e w' => e = .returned (.int .u8 (bitsV 5)) ∧ w' = w := by
  show Calls _ _ _ _ fun e w' => e = .returned (.int .u8 64) ∧ w' = w
  go_enter Tryz.func90, Tryz.ntmps90
  go_wp2_with fail
  go_ret
  exact ⟨rfl, rfl⟩
theorem rbits_6 (w : World) : Calls Tryz.prog 90 #[.int .u8 6] w fun e w' => e = .returned (.int .u8 (bitsV 6)) ∧ w' = w := by
  show Calls _ _ _ _ fun e w' => e = .returned (.int .u8 64) ∧ w' = w
  go_enter Tryz.func90, Tryz.ntmps90
  go_wp2_with fail
  go_ret
  exact ⟨rfl, rfl⟩
theorem rbits_4 (w : World) : Calls Tryz.prog 90 #[.int .u8 4] w fun e w' => e = .returned (.int .u8 (bitsV 4)) ∧ w' = w := by
  show Calls _ _ _ _ fun e w' => e = .returned (.int .u8 128) ∧ w' = w
  go_enter Tryz.func90, Tryz.ntmps90
  go_wp2_with fail
  go_ret
  exact ⟨rfl, rfl⟩
theorem rbits_9 (w : World) : Calls Tryz.prog 90 #[.int .u8 9] w fun e w' => e = .returned (.int .u8 (bitsV 9)) ∧ w' = w := by
  show Calls _ _ _ _ fun e w' => e = .returned (.int .u8 128) ∧ w' = w
  go_enter Tryz.func90, Tryz.ntmps90
  go_wp2_with fail
  go_ret
  exact ⟨rfl, rfl⟩
theorem rbits_10 (w : World) : Calls Tryz.prog 90 #[.int .u8 10] w fun e w' => e = .returned (.int .u8 (bitsV 10)) ∧ w' = w := by
  show Calls _ _ _ _ fun e w' => e = .returned (.int .u8 128) ∧ w' = w
  go_enter Tryz.func90, Tryz.ntmps90
  go_wp2_with fail
  go_ret
  exact ⟨rfl, rfl⟩
theorem rbits_7 (w : World) : Calls Tryz.prog 90 #[.int .u8 7] w fun e w' => e = .returned (.int .u8 (bitsV 7)) ∧ w' = w := by
  show Calls _ _ _ _ fun e w' => e = .returned (.int .u8 192) ∧ w' = w
  go_enter Tryz.func90, Tryz.ntmps90
  go_wp2_with fail
  go_ret
  exact ⟨rfl, rfl⟩
theorem rbits_8 (w : World) : Calls Tryz.prog 90 #[.int .u8 8] w fun e w' => e = .returned (.int .u8 (bitsV 8)) ∧ w' = w := by
  show Calls _ _ _ _ fun e w' => e = .returned (.int .u8 192) ∧ w' = w
  go_enter Tryz.func90, Tryz.ntmps90
  go_wp2_with fail
  go_ret
  exact ⟨rfl, rfl⟩
theorem rbits_16 (w : World) : Calls Tryz.prog 90 #[.int .u8 16] w fun e w' => e = .returned (.int .u8 (bitsV 16)) ∧ w' = w := by
  show Calls _ _ _ _ fun e w' => e = .returned (.int .u8 192) ∧ w' = w
  go_enter Tryz.func90, Tryz.ntmps90
  go_wp2_with fail
  go_ret
  exact ⟨rfl, rfl⟩
theorem rbits_32 (w : World) : Calls Tryz.prog 90 #[.int .u8 32] w fun e w' => e = .returned (.int .u8 (bitsV 32)) ∧ w' = w := by
  show Calls _ _ _ _ fun e w' => e = .returned (.int .u8 192) ∧ w' = w
  go_enter Tryz.func90, Tryz.ntmps90
  go_wp2_with fail
  go_ret
  exact ⟨rfl, rfl⟩
theorem row_not {t : Nat} (h : ¬ knownT t) : rowF t = none := by
  cases hr : rowF t with
  | none => rfl
  | some p =>
    obtain ⟨b, wr, i, f⟩ := p
    exact absurd (row_known hr) h
theorem rbits_no (t : Nat) (h : ¬ knownT t) (w : World) : Calls Tryz.prog 90 #[.int .u8 (t : Nat)] w fun e w' => e = .returned (.int .u8 (bitsV t)) ∧ w' = w := by
  have e : bitsV t = 0 := by unfold bitsV; rw [row_not h]
  rw [e]
  unfold knownT at h
  have z1 : ((t : Int) == 1) = false := beq_eq_false_iff_ne.2 (by omega)
  have z2 : ((t : Int) == 2) = false := beq_eq_false_iff_ne.2 (by omega)
  have z3 : ((t : Int) == 3) = false := beq_eq_false_iff_ne.2 (by omega)
  have z5 : ((t : Int) == 5) = false := beq_eq_false_iff_ne.2 (by omega)
  have z6 : ((t : Int) == 6) = false := beq_eq_false_iff_ne.2 (by omega)
  have z4 : ((t : Int) == 4) = false := beq_eq_false_iff_ne.2 (by omega)
  have z9 : ((t : Int) == 9) = false := beq_eq_false_iff_ne.2 (by omega)
  have z10 : ((t : Int) == 10) = false := beq_eq_false_iff_ne.2 (by omega)
  have z7 : ((t : Int) == 7) = false := beq_eq_false_iff_ne.2 (by omega)
  have z8 : ((t : Int) == 8) = false := beq_eq_false_iff_ne.2 (by omega)
  have z16 : ((t : Int) == 16) = false := beq_eq_false_iff_ne.2 (by omega)
  have z32 : ((t : Int) == 32) = false := beq_eq_false_iff_ne.2 (by omega)
  clear e h
  go_enter Tryz.func90, Tryz.ntmps90
  go_wp2_with fail
  go_ret
  exact ⟨rfl, rfl⟩
theorem rbits_any (t : Nat) (w : World) : Calls Tryz.prog 90 #[.int .u8 (t : Nat)] w fun e w' => e = .returned (.int .u8 (bitsV t)) ∧ w' = w := by
  by_cases h : knownT t
  · rcases h with rfl | rfl | rfl | rfl | rfl | rfl | rfl | rfl | rfl | rfl | rfl | rfl
    · exact rbits_1 w
    · exact rbits_2 w
    · exact rbits_3 w
    · exact rbits_4 w
    · exact rbits_5 w
    · exact rbits_6 w
    · exact rbits_7 w
    · exact rbits_8 w
    · exact rbits_9 w
    · exact rbits_10 w
    · exact rbits_16 w
    · exact rbits_32 w
  · exact rbits_no t h w
end Go.Proofs.YtkcojblflebomaaGreat
