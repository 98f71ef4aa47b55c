/-
  Several texts in one.
-/
import Derived.Test.YtojiieghjhjoaaaGreatKN19
import Derived.Deep.RegionHeld3
import Derived.IntWalk
set_option linter.unusedVariables false
set_option linter.unusedSimpArgs false
namespace Go.Proofs.YtojiieghjhjoaaaGreat
open Go.RowKit

set_option maxRecDepth 100000 in
set_option maxHeartbeats 4000000 in
theorem ckp_any (fam rd : Int) (addr : ByteArray) (len : Int) (w : World) (ha : addr.size ≤ 9223372036854775807) :
    Calls Tryz.prog 87 #[.agg #[.int .i64 fam, .int .u64 rd, .string addr, .int .i64 len]] w fun e w' => e = .returned (.int .i64 (prefC fam rd addr len)) ∧ Below w.heap.size w w' := by
  have hin := famSize_in fam
  have hz := famSize_zero fam
  have bad : ¬ PrefOk fam rd addr len → prefC fam rd addr len = 2 := fun h => if_neg h
  have good : PrefOk fam rd addr len → prefC fam rd addr len = 0 := fun h => if_pos h
  have HPS := Lib.hid (fun w => psize_any fam w)
  have HAP := Lib.hid (fun w => apart_any fam w)
  by_cases c1 : famSize fam = 0
  · have hr := Lib.hid (bad (fun h => h.1 c1))
    clear bad good
    rw [c1] at HPS
    clear c1 hin hz
    go_enter Tryz.func87, Tryz.ntmps87
    go_wp2_with fail
    refine (HPS.out _).mono ?_
    rintro e w1 ⟨rfl, rfl⟩
    go_wp2_with fail
    go_quiet (fail)
    go_wp2_with fail
    go_ret
    exact ⟨ret_int hr.out.symm, below_drewN ((Below.refl _ _).alloc (Nat.le_refl _) _) nq⟩
  have e0 : (famSize fam == 0) = false := by rw [beq_eq_false_iff_ne]; exact c1
  have f0 : (fam == 0) = false := by rw [beq_eq_false_iff_ne]; exact fun h => c1 (hz h)
  clear hz
  by_cases c2 : (addr.size : Int) = famSize fam
  · have e2 : ((addr.size : Int) == famSize fam) = true := by rw [beq_iff_eq]; exact c2
    have e2' : ((addr.size : Int) != famSize fam) = false := by rw [bne, e2]; rfl
    by_cases c3 : len < 0
    · have hr := Lib.hid (bad (fun h => absurd h.2.2.1 (by omega)))
      clear bad good c2
      generalize famSize fam = S at HPS e0 e2 e2' ⊢
      go_enter Tryz.func87, Tryz.ntmps87
      go_wp2_with fail
      refine (HPS.out _).mono ?_
      rintro e w1 ⟨rfl, rfl⟩
      go_wp2_with fail
      go_quiet (fail)
      go_wp2_with fail
      go_ret
      exact ⟨ret_int hr.out.symm, below_drewN ((Below.refl _ _).alloc (Nat.le_refl _) _) nq⟩
    by_cases c4 : 8 * famSize fam < len
    · have d3 : decide (len < 0) = false := decide_eq_false c3
      have d4 : decide (8 * famSize fam < len) = true := decide_eq_true c4
      have d5 : IntKind.i64.wrap (8 * famSize fam) = 8 * famSize fam := IntWalk.i64_in _ (by omega)
      have hr := Lib.hid (bad (fun h => absurd h.2.2.2.1 (by omega)))
      clear bad good c2
      generalize famSize fam = S at HPS e0 e2 e2' d4 d5 c4 ⊢
      go_enter Tryz.func87, Tryz.ntmps87
      go_wp2_with fail
      refine (HPS.out _).mono ?_
      rintro e w1 ⟨rfl, rfl⟩
      go_wp2_with fail
      go_quiet (fail)
      go_wp2_with fail
      go_ret
      exact ⟨ret_int hr.out.symm, below_drewN ((Below.refl _ _).alloc (Nat.le_refl _) _) nq⟩
    have HM := Lib.hid (fun w => masked_any addr len w (by omega) (by omega) (by omega))
    by_cases c5 : rd = 0
    · exact check_rd0 fam rd addr len w ha c1 c2 c3 c4 c5
    · have e5 : (rd == 0) = false := by rw [beq_eq_false_iff_ne]; exact c5
      have e5' : (rd != 0) = true := by rw [bne, e5]; rfl
      by_cases c6 : fam = 4 ∨ fam = 5
      · have hok : maskB addr len = addr → PrefOk fam rd addr len := fun h => ⟨c1, c2, by omega, by omega, Or.inr c6, h⟩
        rw [decide_eq_true c6] at HAP
        clear c1 c6
        have hs0 : addr.size ≤ 1000000 := by omega
        have d3 : decide (len < 0) = false := decide_eq_false c3
        have d4 : decide (8 * famSize fam < len) = false := decide_eq_false c4
        have d5 : IntKind.i64.wrap (8 * famSize fam) = 8 * famSize fam := IntWalk.i64_in _ (by omega)
        clear c2
        generalize famSize fam = S at HPS e0 e2 e2' d4 d5 ⊢
        by_cases c7 : maskB addr len = addr
        · have m1 : (addr.toList == addr.toList) = true := by simp
          have m2 : (addr.toList != addr.toList) = false := by simp
          have hr := Lib.hid (good (hok c7))
          rw [c7] at HM
          clear bad good c7 hok
          go_enter Tryz.func87, Tryz.ntmps87
          go_wp2_with fail
          refine (HPS.out _).mono ?_
          rintro e w1 ⟨rfl, rfl⟩
          go_wp2_with fail
          have hS0 : (w.alloc (.cells #[.int .i64 fam, .int .u64 rd, .string addr, .int .i64 len] 27)).drew.cell? ⟨w.heap.size, 0, none⟩ = some (.int .i64 fam) ∧ (w.alloc (.cells #[.int .i64 fam, .int .u64 rd, .string addr, .int .i64 len] 27)).drew.cell? ⟨w.heap.size, 1, none⟩ = some (.int .u64 rd) ∧ (w.alloc (.cells #[.int .i64 fam, .int .u64 rd, .string addr, .int .i64 len] 27)).drew.cell? ⟨w.heap.size, 2, none⟩ = some (.string addr) ∧ (w.alloc (.cells #[.int .i64 fam, .int .u64 rd, .string addr, .int .i64 len] 27)).drew.cell? ⟨w.heap.size, 3, none⟩ = some (.int .i64 len) ∧ Hid (w.heap.size < (w.alloc (.cells #[.int .i64 fam, .int .u64 rd, .string addr, .int .i64 len] 27)).drew.heap.size ∧ Below w.heap.size w (w.alloc (.cells #[.int .i64 fam, .int .u64 rd, .string addr, .int .i64 len] 27)).drew) := by
            have hc := fun j => cell_of_row (w.alloc (.cells #[.int .i64 fam, .int .u64 rd, .string addr, .int .i64 len] 27)) w.heap.size j _ _ _ (heap_alloc_new w _)
            exact ⟨(hc 0).trans rfl, (hc 1).trans rfl, (hc 2).trans rfl, (hc 3).trans rfl, ⟨by show w.heap.size < (w.alloc _).heap.size; simp, below_drewN ((Below.refl _ _).alloc (Nat.le_refl _) _) 1⟩⟩
          go_region_held3 (fun w' => w'.cell? ⟨w.heap.size, 0, none⟩ = some (.int .i64 fam) ∧ w'.cell? ⟨w.heap.size, 1, none⟩ = some (.int .u64 rd) ∧ w'.cell? ⟨w.heap.size, 2, none⟩ = some (.string addr) ∧ w'.cell? ⟨w.heap.size, 3, none⟩ = some (.int .i64 len) ∧ Hid (w.heap.size < w'.heap.size ∧ Below w.heap.size w w'))
            (first | exact hS0 | exact ck_step (by assumption) hb2 | assumption)
            (first
              | (go_at_call 104; refine (HAP.out _).mono ?_; rintro e w2 ⟨rfl, rfl⟩)
              | (go_at_call 105; refine (HM.out _).mono ?_; rintro e w2 ⟨rfl, hb2⟩))
          all_goals
            go_wp2_with fail
            go_ret
            exact ⟨ret_int hr.out.symm, ck_below (by assumption)⟩
        · have m1 := toList_ne c7
          have m2 : ((maskB addr len).toList != addr.toList) = true := by rw [bne, m1]; rfl
          have hr := Lib.hid (bad (fun h => c7 h.2.2.2.2.2))
          clear bad good c7 hok
          generalize maskB addr len = M at HM m1 m2
          go_enter Tryz.func87, Tryz.ntmps87
          go_wp2_with fail
          refine (HPS.out _).mono ?_
          rintro e w1 ⟨rfl, rfl⟩
          go_wp2_with fail
          have hS0 : (w.alloc (.cells #[.int .i64 fam, .int .u64 rd, .string addr, .int .i64 len] 27)).drew.cell? ⟨w.heap.size, 0, none⟩ = some (.int .i64 fam) ∧ (w.alloc (.cells #[.int .i64 fam, .int .u64 rd, .string addr, .int .i64 len] 27)).drew.cell? ⟨w.heap.size, 1, none⟩ = some (.int .u64 rd) ∧ (w.alloc (.cells #[.int .i64 fam, .int .u64 rd, .string addr, .int .i64 len] 27)).drew.cell? ⟨w.heap.size, 2, none⟩ = some (.string addr) ∧ (w.alloc (.cells #[.int .i64 fam, .int .u64 rd, .string addr, .int .i64 len] 27)).drew.cell? ⟨w.heap.size, 3, none⟩ = some (.int .i64 len) ∧ Hid (w.heap.size < (w.alloc (.cells #[.int .i64 fam, .int .u64 rd, .string addr, .int .i64 len] 27)).drew.heap.size ∧ Below w.heap.size w (w.alloc (.cells #[.int .i64 fam, .int .u64 rd, .string addr, .int .i64 len] 27)).drew) := by
            have hc := fun j => cell_of_row (w.alloc (.cells #[.int .i64 fam, .int .u64 rd, .string addr, .int .i64 len] 27)) w.heap.size j _ _ _ (heap_alloc_new w _)
            exact ⟨(hc 0).trans rfl, (hc 1).trans rfl, (hc 2).trans rfl, (hc 3).trans rfl, ⟨by show w.heap.size < (w.alloc _).heap.size; simp, below_drewN ((Below.refl _ _).alloc (Nat.le_refl _) _) 1⟩⟩
          go_region_held3 (fun w' => w'.cell? ⟨w.heap.size, 0, none⟩ = some (.int .i64 fam) ∧ w'.cell? ⟨w.heap.size, 1, none⟩ = some (.int .u64 rd) ∧ w'.cell? ⟨w.heap.size, 2, none⟩ = some (.string addr) ∧ w'.cell? ⟨w.heap.size, 3, none⟩ = some (.int .i64 len) ∧ Hid (w.heap.size < w'.heap.size ∧ Below w.heap.size w w'))
            (first | exact hS0 | exact ck_step (by assumption) hb2 | assumption)
            (first
              | (go_at_call 104; refine (HAP.out _).mono ?_; rintro e w2 ⟨rfl, rfl⟩)
              | (go_at_call 105; refine (HM.out _).mono ?_; rintro e w2 ⟨rfl, hb2⟩))
          all_goals
            go_wp2_with fail
            go_ret
            exact ⟨ret_int hr.out.symm, ck_below (by assumption)⟩
      · have hr := Lib.hid (bad (fun h => h.2.2.2.2.1.elim c5 c6))
        rw [decide_eq_false c6] at HAP
        have d3 : decide (len < 0) = false := decide_eq_false c3
        have d4 : decide (8 * famSize fam < len) = false := decide_eq_false c4
        have d5 : IntKind.i64.wrap (8 * famSize fam) = 8 * famSize fam := IntWalk.i64_in _ (by omega)
        clear bad good c2 c6 HM
        generalize famSize fam = S at HPS e0 e2 e2' d4 d5 c4 ⊢
        go_enter Tryz.func87, Tryz.ntmps87
        go_wp2_with fail
        refine (HPS.out _).mono ?_
        rintro e w1 ⟨rfl, rfl⟩
        go_wp2_with fail
        go_quiet ((go_at_call 104; exact Calls.quiet_of_same (HAP.out _)))
        go_wp2_with fail
        go_ret
        exact ⟨ret_int hr.out.symm, below_drewN ((Below.refl _ _).alloc (Nat.le_refl _) _) nq⟩
  · have e2 : ((addr.size : Int) == famSize fam) = false := by rw [beq_eq_false_iff_ne]; exact c2
    have e2' : ((addr.size : Int) != famSize fam) = true := by rw [bne, e2]; rfl
    have hr := Lib.hid (bad (fun h => c2 h.2.1))
    clear bad good c2
    generalize famSize fam = S at HPS e0 e2 e2' ⊢
    go_enter Tryz.func87, Tryz.ntmps87
    go_wp2_with fail
    refine (HPS.out _).mono ?_
    rintro e w1 ⟨rfl, rfl⟩
    go_wp2_with fail
    go_quiet (fail)
    go_wp2_with fail
    go_ret
    exact ⟨ret_int hr.out.symm, below_drewN ((Below.refl _ _).alloc (Nat.le_refl _) _) nq⟩

end Go.Proofs.YtojiieghjhjoaaaGreat
