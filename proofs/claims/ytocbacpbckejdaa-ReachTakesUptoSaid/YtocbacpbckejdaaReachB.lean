/-
  Contract of reach.Fam. Conditions: none.
-/
import Derived.Test.YtocbacpbckejdaaReachA
set_option linter.unusedVariables false
set_option linter.unusedSimpArgs false
namespace Go.Proofs.Ytocbacpbckejdaa
open Go.RowKit

/-- the rows' block -/
def RowsAt (w : World) (b : Nat) : Prop := w.heap[b]? = some (.cells rowVals 58 (0, 0))
theorem RowsAt.lt {w : World} {b : Nat} (h : RowsAt w b) : b < w.heap.size := (Array.getElem?_eq_some_iff.1 h).1
theorem RowsAt.cells {w : World} {b k : Nat} (h : RowsAt w b) (hk : k < 5) :
    w.cell? ⟨b, 4 + k * 4, none⟩ = some (.int .u16 (afiV ((k : Int) + 1))) ∧ w.cell? ⟨b, 4 + k * 4 + 1, none⟩ = some (.int .u8 (safiV ((k : Int) + 1))) ∧
      w.cell? ⟨b, 4 + k * 4 + 2, none⟩ = some (.int .i64 (zeroV ((k : Int) + 1))) ∧ w.cell? ⟨b, 4 + k * 4 + 3, none⟩ = some (.int .i64 (sizeV ((k : Int) + 1))) := by
  have hc := fun j => cell_of_row w b j _ _ _ h
  rw [hc, hc, hc, hc]
  rcases (show k = 0 ∨ k = 1 ∨ k = 2 ∨ k = 3 ∨ k = 4 by omega) with rfl | rfl | rfl | rfl | rfl <;> exact ⟨rfl, rfl, rfl, rfl⟩

theorem index_any (B p q : Nat) (a s : Int) (w : World) (hB : RowsAt w B) (ha : w.cell? ⟨p, 0, none⟩ = some (.int .u16 a)) (hs : w.cell? ⟨q, 0, none⟩ = some (.int .u8 s)) :
    Calls Try.prog 29 #[.slice (some ⟨B, 4, none⟩) 5 5, .func (.func 30) #[] #[.pointer (some ⟨p, 0, none⟩), .pointer (some ⟨q, 0, none⟩)]] w
      fun e w' => e = .returned (.int .i64 (famOf a s - 1)) ∧ Below w.heap.size w w' := by
  have hp := World.block_lt_of_cell? w _ ha
  have hq := World.block_lt_of_cell? w _ hs
  have HR := Lib.hid hB
  have HA := Lib.hid ha
  have HS := Lib.hid hs
  have hBlt := hB.lt
  clear hB ha hs
  go_enter Try.func29, Try.ntmps29
  go_wp2_with fail
  go_loopw [8] (fun i wr => ∃ k : Nat, k ≤ 5 ∧ i = .int .i64 k ∧ Hid (∀ g : Int, 1 ≤ g → g < (k : Int) + 1 → ¬ (afiV g = a ∧ safiV g = s)) ∧ Below w.heap.size w wr) (fun i _ => 6 - (intOf i).toNat)
  case atStart => exact ⟨0, by omega, rfl, fun g h1 h2 => absurd h1 (by omega), Below.refl _ _⟩
  case round =>
    obtain ⟨k, hk, rfl, HN, hb⟩ := hrel
    have HB := Lib.hid hb
    clear hb
    by_cases hlt : k < 5
    · obtain ⟨d0, d1, d2, d3⟩ := HR.out.cells hlt
      have d0 := (HB.out.cell (p := ⟨B, 4 + k * 4, none⟩) hBlt).trans d0
      have d1 := (HB.out.cell (p := ⟨B, 4 + k * 4 + 1, none⟩) hBlt).trans d1
      have d2 := (HB.out.cell (p := ⟨B, 4 + k * 4 + 2, none⟩) hBlt).trans d2
      have d3 := (HB.out.cell (p := ⟨B, 4 + k * 4 + 3, none⟩) hBlt).trans d3
      have HE := Lib.hid (famOf_eq a s ((k : Int) + 1) (by omega) (by omega))
      go_wp2_with fail
      refine (fam1_any _ _ _ _ a s p q _ ((HB.out.cell (p := ⟨p, 0, none⟩) hp).trans HA.out) ((HB.out.cell (p := ⟨q, 0, none⟩) hq).trans HS.out)).mono ?_
      rintro e w1 ⟨rfl, hb1⟩
      have HB1 := Lib.hid (HB.out.trans (hb1.mono HB.out.size))
      clear hb1 d0 d1 d2 d3
      by_cases hm : afiV ((k : Int) + 1) = a ∧ safiV ((k : Int) + 1) = s
      · have hf : Hid (famOf a s - 1 = (k : Int)) := by show _ = _; rw [HE.out hm.1 hm.2]; omega
        have hd : decide (afiV ((k : Int) + 1) = a ∧ safiV ((k : Int) + 1) = s) = true := decide_eq_true hm
        rw [hd]
        clear hm hd HE
        go_wp2_with fail
        go_ret
        exact ⟨ret_int hf.out.symm, HB1.out⟩
      · have HN2 : Hid (∀ g : Int, 1 ≤ g → g < ((k + 1 : Nat) : Int) + 1 → ¬ (afiV g = a ∧ safiV g = s)) := fun g h1 h2 => by
          rcases Int.lt_or_le g ((k : Int) + 1) with h | h
          · exact HN.out g h1 h
          · obtain rfl : g = (k : Int) + 1 := by omega
            exact hm
        have hd : decide (afiV ((k : Int) + 1) = a ∧ safiV ((k : Int) + 1) = s) = false := decide_eq_false hm
        rw [hd]
        clear hm hd HE HN
        go_wp2_with fail
        exact ⟨⟨k + 1, by omega, by go_num, HN2, HB1.out⟩, by simp [intOf]; omega⟩
    · obtain rfl : k = 5 := by omega
      have hf : Hid (famOf a s - 1 = -1) := by show _ = _; rw [famOf_none a s (fun g h1 h2 => HN.out g h1 (by omega))]; rfl
      clear HN
      go_wp2_with fail
      go_ret
      exact ⟨ret_int hf.out.symm, HB.out⟩

theorem famOf_in (a s : Int) : 0 ≤ famOf a s ∧ famOf a s ≤ 5 := by
  unfold famOf
  repeat' split
  all_goals omega

theorem fam_any (a s : Int) (w : World) : Calls Try.prog 11 #[.int .u16 a, .int .u8 s] w fun e w' => e = .returned (.int .i64 (famOf a s)) ∧ Below w.heap.size w w' := by
  have hin := famOf_in a s
  go_enter Try.func11, Try.ntmps11
  go_wp2_with fail
  refine (rows_any _).mono ?_
  rintro e w1 ⟨rfl, hb⟩
  have hz := hb.size
  simp only [World.size_alloc] at hz
  have h0 : w1.cell? ⟨w.heap.size, 0, none⟩ = some (.int .u16 a) := by
    rw [hb.cell (p := ⟨w.heap.size, 0, none⟩) (by simp; omega)]
    exact (World.cell?_alloc_lt _ _ _ (by simp)).trans ((cell_of_row _ w.heap.size 0 _ _ _ (heap_alloc_new w _)).trans rfl)
  have h1 : w1.cell? ⟨w.heap.size + 1, 0, none⟩ = some (.int .u8 s) := by
    rw [hb.cell (p := ⟨w.heap.size + 1, 0, none⟩) (by simp)]
    have := heap_alloc_new (w.alloc (.cells #[.int .u16 a] 22)) (.cells #[.int .u8 s] 5)
    simp only [World.size_alloc] at this
    exact (cell_of_row _ (w.heap.size + 1) 0 _ _ _ this).trans rfl
  have hbw : Below w.heap.size w w1 := (((Below.refl w.heap.size w).alloc (Nat.le_refl _) _).alloc (by simp) _).trans (hb.mono (by simp; omega))
  have H0 := Lib.hid h0
  have H1 := Lib.hid h1
  have HB := Lib.hid hbw
  clear h0 h1 hb hbw
  go_wp2_with (refine wpList_store_row rfl 58 (.tmp 5) (.tmp 6) rfl w1.heap.size rowVals rfl rfl 58 _ (heap_alloc_new w1 _) (by kernel_rfl) rfl rowVals_one ?_)
  have hW : ∀ o : Obj, Below w1.heap.size w1 ((w1.alloc o).setRow w1.heap.size rowVals) := fun o => below_setRow ((Below.refl _ _).alloc (Nat.le_refl _) _) (Nat.le_refl _) _
  refine (index_any w1.heap.size w.heap.size (w.heap.size + 1) a s _ (setRow_heap _ _ _ _ _ _ (heap_alloc_new w1 _)) (((hW _).cell (p := ⟨w.heap.size, 0, none⟩) (by show w.heap.size < _; omega)).trans H0.out) (((hW _).cell (p := ⟨w.heap.size + 1, 0, none⟩) (by show w.heap.size + 1 < _; omega)).trans H1.out)).mono ?_
  rintro e w2 ⟨rfl, hb2⟩
  have HB2 := Lib.hid (HB.out.trans (((hW _).mono (by omega)).trans (hb2.mono (by simp; omega))))
  clear hb2 hW
  go_wp2_with fail
  all_goals
    go_ret
    exact ⟨ret_int (by omega), HB2.out⟩

end Go.Proofs.Ytocbacpbckejdaa
