/-
  Contracts of reach.rows, rowOf, Afi, Fam and of heraldref08.Afi, Fam. Conditions: none.
-/
import Derived.Test.YtocbacpbckejdaaBase
import Derived.Handy
import Derived.WalkSpells
import Derived.WalkLawsBesides
import Derived.LoopTactic
import Derived.Deep.QuietTactic
import Derived.BigQuiet
set_option linter.unusedVariables false
set_option linter.unusedSimpArgs false
namespace Go.Proofs.Ytocbacpbckejdaa
open Go.RowKit

def rowVals : Array Value := #[.int .u16 0, .int .u8 0, .int .i64 0, .int .i64 0, .int .u16 1, .int .u8 1, .int .i64 0, .int .i64 4, .int .u16 2, .int .u8 1, .int .i64 0, .int .i64 16,
  .int .u16 1, .int .u8 4, .int .i64 0, .int .i64 4, .int .u16 1, .int .u8 128, .int .i64 8, .int .i64 4, .int .u16 2, .int .u8 128, .int .i64 8, .int .i64 16]

theorem rowVals_one : rowVals.all (·.oneCell') = true := by kernel_rfl
/-- whole rows stored and handed back -/
theorem below_setRow {w : World} {B g : Nat} {a : World} (h : Below B a w) (hg : B ≤ g) (cs : Array Value) : Below B a (w.setRow g cs) :=
  ⟨h.os, h.tape, h.output, by rw [setRow_size]; exact h.size, fun k hk => (setRow_other w g k cs (by omega)).trans (h.block k hk)⟩

theorem rows_any (w : World) : Calls Try.prog 28 #[] w fun e w' => e = .returned (.agg rowVals) ∧ Below w.heap.size w w' := by
  go_enter Try.func28, Try.ntmps28
  go_wp2_with (refine wpList_store_row rfl 58 (.tmp 0) (.tmp 7) rfl w.heap.size rowVals rfl rfl 58 _ (heap_alloc_new w _) (by kernel_rfl) rfl rowVals_one ?_)
  refine bodyPost_ret (results_cell_row rfl _ _ w.heap.size 58 rowVals (0, 0) _ rfl (setRow_heap _ _ _ _ _ _ (heap_alloc_new w _)) Try.underlying58 rfl (by kernel_rfl)) rfl ?_
  exact ⟨rfl, below_setRow ((Below.refl _ _).alloc (Nat.le_refl _) _) (Nat.le_refl _) _⟩

/-- a family's numbers -/
def afiV (f : Int) : Int := if f = 1 then 1 else if f = 2 then 2 else if f = 3 then 1 else if f = 4 then 1 else if f = 5 then 2 else 0
def safiV (f : Int) : Int := if f = 1 then 1 else if f = 2 then 1 else if f = 3 then 4 else if f = 4 then 128 else if f = 5 then 128 else 0
def zeroV (f : Int) : Int := if f = 4 then 8 else if f = 5 then 8 else 0
def sizeV (f : Int) : Int := if f = 1 then 4 else if f = 2 then 16 else if f = 3 then 4 else if f = 4 then 4 else if f = 5 then 16 else 0
theorem fam_five {f : Int} (h1 : 1 ≤ f) (h2 : f ≤ 5) : f = 1 ∨ f = 2 ∨ f = 3 ∨ f = 4 ∨ f = 5 := by omega
theorem row_at (f : Int) (h1 : 1 ≤ f) (h2 : f ≤ 5) (w : World) :
    (Instr.index 58 (.agg rowVals) (.int .i64 f)).run Try.prog w = .ok (.agg #[.int .u16 (afiV f), .int .u8 (safiV f), .int .i64 (zeroV f), .int .i64 (sizeV f)]) w := by
  rcases fam_five h1 h2 with rfl | rfl | rfl | rfl | rfl <;> kernel_rfl

theorem rowOf_in (f : Int) (w : World) (h1 : 1 ≤ f) (h2 : f ≤ 5) :
    Calls Try.prog 27 #[.int .i64 f] w fun e w' => e = .returned (.tuple #[.agg #[.int .u16 (afiV f), .int .u8 (safiV f), .int .i64 (zeroV f), .int .i64 (sizeV f)], .bool true]) ∧ Below w.heap.size w w' := by
  have hidx := row_at f h1 h2
  go_enter Try.func27, Try.ntmps27
  go_wp2_with fail
  refine (rows_any _).mono ?_
  rintro e w1 ⟨rfl, hb⟩
  obtain ⟨hc, hf⟩ := bcell hb
  have hz := hb.size
  simp only [World.size_alloc] at hz
  have HB := Lib.hid hb
  clear hb
  go_wp2_with fail
  refine bodyPost_ret (v := .tuple #[.agg #[.int .u16 (afiV f), .int .u8 (safiV f), .int .i64 (zeroV f), .int .i64 (sizeV f)], .bool true]) (by simp [results, Try.results27, go_sem, hc, hf, hz]) rfl ⟨rfl, ?_⟩
  exact ((((((Below.refl w.heap.size w).alloc (Nat.le_refl _) _).trans (HB.out.mono (by simp))).setCell (Nat.le_refl _) _).setCell (Nat.le_refl _) _).setCell (Nat.le_refl _) _).setCell (Nat.le_refl _) _

theorem rowOf_out (f : Int) (w : World) (h : f < 1 ∨ 5 < f) :
    Calls Try.prog 27 #[.int .i64 f] w fun e w' => e = .returned (.tuple #[.agg #[.int .u16 0, .int .u8 0, .int .i64 0, .int .i64 0], .bool false]) ∧ Below w.heap.size w w' := by
  by_cases h1 : f < 1
  · go_enter Try.func27, Try.ntmps27
    go_wp2_with fail
    refine bodyPost_ret (v := .tuple #[.agg #[.int .u16 0, .int .u8 0, .int .i64 0, .int .i64 0], .bool false]) (by simp [results, Try.results27, go_sem]) rfl ⟨rfl, ?_⟩
    go_grown
  · have h2 : 5 < f := by omega
    go_enter Try.func27, Try.ntmps27
    go_wp2_with fail
    refine bodyPost_ret (v := .tuple #[.agg #[.int .u16 0, .int .u8 0, .int .i64 0, .int .i64 0], .bool false]) (by simp [results, Try.results27, go_sem]) rfl ⟨rfl, ?_⟩
    go_grown

theorem afi_in (f : Int) (w : World) (h1 : 1 ≤ f) (h2 : f ≤ 5) :
    Calls Try.prog 9 #[.int .i64 f] w fun e w' => e = .returned (.tuple #[.int .u16 (afiV f), .int .u8 (safiV f), .bool true]) ∧ Below w.heap.size w w' := by
  go_enter Try.func9, Try.ntmps9
  go_wp2_with fail
  refine (rowOf_in f _ h1 h2).mono ?_
  rintro e w1 ⟨rfl, hb⟩
  have HB := Lib.hid hb
  clear hb
  go_wp2_with fail
  go_quiet (fail)
  go_wp2_with fail
  go_ret3
  exact ⟨rfl, below_drewN (HB.out.alloc HB.out.size _) nq⟩
theorem afi_out (f : Int) (w : World) (h : f < 1 ∨ 5 < f) :
    Calls Try.prog 9 #[.int .i64 f] w fun e w' => e = .returned (.tuple #[.int .u16 0, .int .u8 0, .bool false]) ∧ Below w.heap.size w w' := by
  go_enter Try.func9, Try.ntmps9
  go_wp2_with fail
  refine (rowOf_out f _ h).mono ?_
  rintro e w1 ⟨rfl, hb⟩
  have HB := Lib.hid hb
  clear hb
  go_wp2_with fail
  go_quiet (fail)
  go_wp2_with fail
  go_ret3
  exact ⟨rfl, below_drewN (HB.out.alloc HB.out.size _) nq⟩

theorem rafi_in (f : Int) (w : World) (h1 : 1 ≤ f) (h2 : f ≤ 5) :
    Calls Try.prog 10 #[.int .i64 f] w fun e w' => e = .returned (.tuple #[.int .u16 (afiV f), .int .u8 (safiV f), .bool true]) ∧ w' = w := by
  rcases fam_five h1 h2 with rfl | rfl | rfl | rfl | rfl
  all_goals
    go_enter Try.func10, Try.ntmps10
    go_wp2
    go_ret3
    exact ⟨rfl, rfl⟩
theorem rafi_out (f : Int) (w : World) (h : f < 1 ∨ 5 < f) :
    Calls Try.prog 10 #[.int .i64 f] w fun e w' => e = .returned (.tuple #[.int .u16 0, .int .u8 0, .bool false]) ∧ w' = w := by
  have e1 : (f == 1) = false := by rw [beq_eq_false_iff_ne]; omega
  have e2 : (f == 2) = false := by rw [beq_eq_false_iff_ne]; omega
  have e3 : (f == 3) = false := by rw [beq_eq_false_iff_ne]; omega
  have e4 : (f == 4) = false := by rw [beq_eq_false_iff_ne]; omega
  have e5 : (f == 5) = false := by rw [beq_eq_false_iff_ne]; omega
  go_enter Try.func10, Try.ntmps10
  go_wp2
  go_ret3
  exact ⟨rfl, rfl⟩

/-- a pair's family -/
def famOf (a s : Int) : Int := if a = 1 ∧ s = 1 then 1 else if a = 2 ∧ s = 1 then 2 else if a = 1 ∧ s = 4 then 3 else if a = 1 ∧ s = 128 then 4 else if a = 2 ∧ s = 128 then 5 else 0

theorem famOf_eq (a s f : Int) (h1 : 1 ≤ f) (h2 : f ≤ 5) (ha : afiV f = a) (hs : safiV f = s) : famOf a s = f := by
  subst ha; subst hs
  rcases fam_five h1 h2 with rfl | rfl | rfl | rfl | rfl <;> decide
theorem famOf_none (a s : Int) (h : ∀ g : Int, 1 ≤ g → g ≤ 5 → ¬ (afiV g = a ∧ safiV g = s)) : famOf a s = 0 := by
  have h1 : ¬ ((1 : Int) = a ∧ (1 : Int) = s) := h 1 (by omega) (by omega)
  have h2 : ¬ ((2 : Int) = a ∧ (1 : Int) = s) := h 2 (by omega) (by omega)
  have h3 : ¬ ((1 : Int) = a ∧ (4 : Int) = s) := h 3 (by omega) (by omega)
  have h4 : ¬ ((1 : Int) = a ∧ (128 : Int) = s) := h 4 (by omega) (by omega)
  have h5 : ¬ ((2 : Int) = a ∧ (128 : Int) = s) := h 5 (by omega) (by omega)
  unfold famOf
  rw [if_neg (by omega), if_neg (by omega), if_neg (by omega), if_neg (by omega), if_neg (by omega)]

theorem rfam_any (a s : Int) (w : World) : Calls Try.prog 12 #[.int .u16 a, .int .u8 s] w fun e w' => e = .returned (.int .i64 (famOf a s)) ∧ w' = w := by
  go_enter Try.func12, Try.ntmps12
  go_wp2_with fail
  go_loop [5] (fun i => ∃ f : Int, 1 ≤ f ∧ f ≤ 6 ∧ i = .int .i64 f ∧ Hid (∀ g : Int, 1 ≤ g → g < f → ¬ (afiV g = a ∧ safiV g = s))) (fun i => (7 - intOf i).toNat)
  case atStart => exact ⟨1, by omega, by omega, rfl, fun g h1 h2 => absurd h1 (by omega)⟩
  case round =>
    obtain ⟨f, f1, f2, rfl, HN⟩ := hrel
    by_cases hlt : f ≤ 5
    · have HE := Lib.hid (famOf_eq a s f f1 hlt)
      go_wp2_with fail
      refine (rafi_in f _ f1 hlt).mono ?_
      rintro e w1 ⟨rfl, rfl⟩
      by_cases ha : afiV f = a
      · by_cases hs : safiV f = s
        · have b1 : (afiV f == a) = true := by rw [beq_iff_eq]; exact ha
          have b2 : (safiV f == s) = true := by rw [beq_iff_eq]; exact hs
          have HF := Lib.hid (HE.out ha hs)
          clear ha hs HE
          generalize afiV f = x at b1 ⊢
          generalize safiV f = y at b2 ⊢
          go_wp2_with fail
          go_ret
          exact ⟨ret_int HF.out.symm, rfl⟩
        · have b1 : (afiV f == a) = true := by rw [beq_iff_eq]; exact ha
          have b2 : (safiV f == s) = false := by rw [beq_eq_false_iff_ne]; exact hs
          have HN2 : Hid (∀ g : Int, 1 ≤ g → g < f + 1 → ¬ (afiV g = a ∧ safiV g = s)) := fun g h1 h2 => by
            rcases Int.lt_or_le g f with h | h
            · exact HN.out g h1 h
            · obtain rfl : g = f := by omega
              exact fun hh => hs hh.2
          clear ha hs HE HN
          generalize afiV f = x at b1 ⊢
          generalize safiV f = y at b2 ⊢
          go_wp2_with fail
          exact ⟨⟨f + 1, by omega, by omega, by go_num, HN2⟩, by simp [intOf]; omega⟩
      · have b1 : (afiV f == a) = false := by rw [beq_eq_false_iff_ne]; exact ha
        have HN2 : Hid (∀ g : Int, 1 ≤ g → g < f + 1 → ¬ (afiV g = a ∧ safiV g = s)) := fun g h1 h2 => by
          rcases Int.lt_or_le g f with h | h
          · exact HN.out g h1 h
          · obtain rfl : g = f := by omega
            exact fun hh => ha hh.1
        clear ha HE HN
        generalize afiV f = x at b1 ⊢
        generalize safiV f = y
        go_wp2_with fail
        exact ⟨⟨f + 1, by omega, by omega, by go_num, HN2⟩, by simp [intOf]; omega⟩
    · obtain rfl : f = 6 := by omega
      go_wp2_with fail
      go_ret
      exact ⟨ret_int (famOf_none a s (fun g h1 h2 => HN.out g h1 (by omega))).symm, rfl⟩

/-- the closure of Fam -/
theorem fam1_any (x y z u a s : Int) (p q : Nat) (w : World) (ha : w.cell? ⟨p, 0, none⟩ = some (.int .u16 a)) (hs : w.cell? ⟨q, 0, none⟩ = some (.int .u8 s)) :
    Calls Try.prog 30 #[.agg #[.int .u16 x, .int .u8 y, .int .i64 z, .int .i64 u], .pointer (some ⟨p, 0, none⟩), .pointer (some ⟨q, 0, none⟩)] w fun e w' => e = .returned (.bool (decide (x = a ∧ y = s))) ∧ Below w.heap.size w w' := by
  have hp : p < w.heap.size := World.block_lt_of_cell? w _ ha
  have hq : q < w.heap.size := World.block_lt_of_cell? w _ hs
  by_cases h1 : x = a
  · have b1 : (x == a) = true := by rw [beq_iff_eq]; exact h1
    by_cases h2 : y = s
    · have b2 : (y == s) = true := by rw [beq_iff_eq]; exact h2
      have hd : Hid (decide (x = a ∧ y = s) = true) := by show _ = true; simp [h1, h2]
      clear h1 h2
      go_enter Try.func30, Try.ntmps30
      go_wp2_with fail
      go_ret
      exact ⟨ret_bool hd.out.symm, by go_grown⟩
    · have b2 : (y == s) = false := by rw [beq_eq_false_iff_ne]; exact h2
      have hd : Hid (decide (x = a ∧ y = s) = false) := by show _ = false; simp [h2]
      clear h1 h2
      go_enter Try.func30, Try.ntmps30
      go_wp2_with fail
      go_ret
      exact ⟨ret_bool hd.out.symm, by go_grown⟩
  · have b1 : (x == a) = false := by rw [beq_eq_false_iff_ne]; exact h1
    have hd : Hid (decide (x = a ∧ y = s) = false) := by show _ = false; simp [h1]
    clear h1
    go_enter Try.func30, Try.ntmps30
    go_wp2_with fail
    go_ret
    exact ⟨ret_bool hd.out.symm, by go_grown⟩

end Go.Proofs.Ytocbacpbckejdaa
