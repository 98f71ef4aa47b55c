/-
  Several texts in one.
-/
import Derived.Test.YtojiieghjhjoaaaGreatKN6
import Derived.BigRegion
import Derived.Deep.QuietTactic
import Derived.BigQuiet
set_option linter.unusedVariables false
set_option linter.unusedSimpArgs false
namespace Go.Proofs.YtojiieghjhjoaaaGreat
open Go.RowKit Go.MapKept Go.Shelf
open Go.Lib hiding intOf

theorem num_at {w : World} {k : IntKind} {A : Option Addr} {l : List Nat} {i x : Nat} (h : Rd w A 1 (nums k l)) (hx : l[i]? = some x) : ∃ b off, A = some ⟨b, off, none⟩ ∧ b < w.heap.size ∧ w.cell? ⟨b, off + i, none⟩ = some (.int k (x : Nat)) := by
  obtain ⟨b, off, hA, hb, hc⟩ := Rd.at_ (i := i) (cs := [Value.int k (x : Nat)]) h (by unfold nums; rw [List.getElem?_map, hx]; rfl)
  have := hc 0 _ rfl
  rw [Nat.mul_one, Nat.add_zero] at this
  exact ⟨b, off, hA, hb, this⟩
theorem num_both {w : World} {k : IntKind} {A : Option Addr} {l : List Nat} {i j x y : Nat} (h : Rd w A 1 (nums k l)) (hx : l[i]? = some x) (hy : l[j]? = some y) : ∃ b off, A = some ⟨b, off, none⟩ ∧ b < w.heap.size ∧ w.cell? ⟨b, off + i, none⟩ = some (.int k (x : Nat)) ∧ w.cell? ⟨b, off + j, none⟩ = some (.int k (y : Nat)) := by
  obtain ⟨b, off, hA, hb, h1⟩ := num_at h hx
  obtain ⟨b2, off2, hA2, hb2, h2⟩ := num_at h hy
  rw [hA] at hA2
  simp only [Option.some.injEq, Addr.mk.injEq, and_true] at hA2
  obtain ⟨rfl, rfl⟩ := hA2
  exact ⟨b, off, hA, hb, h1, h2⟩
def cmpI (a b : Nat) : Int := if a < b then -1 else if b < a then 1 else 0
theorem cmpI_lt {a b : Nat} (h : a < b) : cmpI a b = -1 := if_pos h
theorem cmpI_gt {a b : Nat} (h : b < a) : cmpI a b = 1 := by unfold cmpI; rw [if_neg (by omega), if_pos h]
theorem cmpI_eq (a : Nat) : cmpI a a = 0 := by unfold cmpI; rw [if_neg (by omega), if_neg (by omega)]
theorem cmpI_neg (a b : Nat) : decide (0 ≤ cmpI a b) = !ltN a b := by
  unfold ltN
  by_cases h : a < b
  · rw [cmpI_lt h, decide_eq_true h]; rfl
  · by_cases h2 : b < a
    · rw [cmpI_gt h2, decide_eq_false h]; rfl
    · obtain rfl : a = b := by omega
      rw [cmpI_eq, decide_eq_false h]; rfl

theorem isNaN_u32 (x : Nat) (w : World) : Calls Tryz.prog 82 #[.int .u32 x] w fun e w' => e = .returned (.bool false) ∧ w = w' := by
  have h : ((x : Int) != (x : Int)) = false := by simp
  go_enter Tryz.func82, Tryz.ntmps82
  go_wp2_with fail
  go_ret
  exact ⟨rfl, rfl⟩
set_option maxHeartbeats 1000000 in
theorem cmp_u32 (a b : Nat) (w : World) : Calls Tryz.prog 57 #[.int .u32 a, .int .u32 b] w fun e w' => e = .returned (.int .i64 (cmpI a b)) ∧ w = w' := by
  have HN := Lib.hid isNaN_u32
  rcases Nat.lt_trichotomy a b with h | h | h
  · rw [cmpI_lt h]
    go_enter Tryz.func57, Tryz.ntmps57
    go_wp2_with fail
    refine (HN.out a _).mono ?_
    rintro e w1 ⟨rfl, rfl⟩
    go_wp2_with fail
    refine (HN.out b _).mono ?_
    rintro e w1 ⟨rfl, rfl⟩
    go_wp2_with fail
    go_ret
    exact ⟨rfl, rfl⟩
  · subst h
    rw [cmpI_eq]
    have h1 : decide ((a : Nat) < a) = false := by simp
    go_enter Tryz.func57, Tryz.ntmps57
    go_wp2_with fail
    refine (HN.out a _).mono ?_
    rintro e w1 ⟨rfl, rfl⟩
    go_wp2_with fail
    refine (HN.out a _).mono ?_
    rintro e w1 ⟨rfl, rfl⟩
    go_wp2_with fail
    go_ret
    exact ⟨rfl, rfl⟩
  · rw [cmpI_gt h]
    have h1 : ¬ a < b := by omega
    go_enter Tryz.func57, Tryz.ntmps57
    go_wp2_with fail
    refine (HN.out a _).mono ?_
    rintro e w1 ⟨rfl, rfl⟩
    go_wp2_with fail
    refine (HN.out b _).mono ?_
    rintro e w1 ⟨rfl, rfl⟩
    go_wp2_with fail
    go_ret
    exact ⟨rfl, rfl⟩

theorem isNaN_u64 (x : Nat) (w : World) : Calls Tryz.prog 83 #[.int .u64 x] w fun e w' => e = .returned (.bool false) ∧ w = w' := by
  have h : ((x : Int) != (x : Int)) = false := by simp
  go_enter Tryz.func83, Tryz.ntmps83
  go_wp2_with fail
  go_ret
  exact ⟨rfl, rfl⟩
set_option maxHeartbeats 1000000 in
theorem cmp_u64 (a b : Nat) (w : World) : Calls Tryz.prog 59 #[.int .u64 a, .int .u64 b] w fun e w' => e = .returned (.int .i64 (cmpI a b)) ∧ w = w' := by
  have HN := Lib.hid isNaN_u64
  rcases Nat.lt_trichotomy a b with h | h | h
  · rw [cmpI_lt h]
    go_enter Tryz.func59, Tryz.ntmps59
    go_wp2_with fail
    refine (HN.out a _).mono ?_
    rintro e w1 ⟨rfl, rfl⟩
    go_wp2_with fail
    refine (HN.out b _).mono ?_
    rintro e w1 ⟨rfl, rfl⟩
    go_wp2_with fail
    go_ret
    exact ⟨rfl, rfl⟩
  · subst h
    rw [cmpI_eq]
    have h1 : decide ((a : Nat) < a) = false := by simp
    go_enter Tryz.func59, Tryz.ntmps59
    go_wp2_with fail
    refine (HN.out a _).mono ?_
    rintro e w1 ⟨rfl, rfl⟩
    go_wp2_with fail
    refine (HN.out a _).mono ?_
    rintro e w1 ⟨rfl, rfl⟩
    go_wp2_with fail
    go_ret
    exact ⟨rfl, rfl⟩
  · rw [cmpI_gt h]
    have h1 : ¬ a < b := by omega
    go_enter Tryz.func59, Tryz.ntmps59
    go_wp2_with fail
    refine (HN.out a _).mono ?_
    rintro e w1 ⟨rfl, rfl⟩
    go_wp2_with fail
    refine (HN.out b _).mono ?_
    rintro e w1 ⟨rfl, rfl⟩
    go_wp2_with fail
    go_ret
    exact ⟨rfl, rfl⟩

set_option maxHeartbeats 4000000 in
theorem rise_u32 (A : Option Addr) (cap : Nat) (l : List Nat) (w : World) (h : Rd w A 1 (nums .u32 l)) (hl : l.length ≤ cap) (hc : cap ≤ 9223372036854775807) :
    Calls Tryz.prog 56 #[.slice A l.length cap, .func (.func 57) #[] #[]] w fun e w' => e = .returned (.bool (riseB ltN l && decide (l.length ≤ 64))) ∧ Below w.heap.size w w' := by
  have HR := Lib.hid h
  have HCMP := Lib.hid cmp_u32
  clear h
  generalize hres : (riseB ltN l && decide (l.length ≤ 64)) = res
  have HRES := Lib.hid hres
  clear hres
  go_enter Tryz.func56, Tryz.ntmps56
  go_wp2_with fail
  go_loopw [5] (fun i wr => ∃ k : Nat, i = .int .i64 ((k : Int) + 1) ∧ Hid (riseB ltN (l.take (k + 1)) = true) ∧ Hid (Below w.heap.size w wr)) (fun i _ => l.length + 2 - (intOf i).toNat)
  case atStart => exact ⟨0, rfl, riseB_one _ _, Below.refl _ _⟩
  case round =>
    obtain ⟨k, rfl, HT, HB⟩ := hrel
    by_cases hlt : k + 1 < l.length
    · obtain ⟨x, hx⟩ : ∃ x, l[k]? = some x := ⟨l[k], List.getElem?_eq_getElem (by omega)⟩
      obtain ⟨y, hy⟩ : ∃ y, l[k + 1]? = some y := ⟨l[k + 1], List.getElem?_eq_getElem (by omega)⟩
      obtain ⟨b, off, rfl, hb, hcell1, hcell2⟩ := num_both (HR.out.below HB.out (Nat.le_refl _)) hx hy
      have hlt' : (k : Int) + 1 < (l.length : Int) := by omega
      have HX := Lib.hid hx
      have HY := Lib.hid hy
      have HC := Lib.hid (cmpI_neg x y)
      clear hx hy
      have hv1 : IntKind.i64.wrap ((k : Int) + 1 - 1) = k := by rw [show (k : Int) + 1 - 1 = k by omega]; exact IntWalk.i64_in _ (by omega)
      cases hq : ltN x y with
      | true =>
        have HN : Hid (riseB ltN (l.take (k + 1 + 1)) = true) := riseB_next HT.out (by omega) (by rw [Nat.add_sub_cancel]; exact HX.out) HY.out hq
        rw [hq] at HC
        clear hq
        have HCM := Lib.hid (HCMP.out x y)
        generalize cmpI x y = c at HC HCM
        have hd : decide (0 ≤ c) = false := HC.out
        go_wp2_with fail
        go_quiet ((go_at_call 57; exact Calls.quiet_of_same ((HCM.out _).mono fun e w' ⟨h1, h2⟩ => ⟨h1, h2.symm⟩)))
        go_wp2_with fail
        exact ⟨⟨k + 1, by go_num, HN.out, below_drewN HB.out _⟩, by simp [intOf]; omega⟩
      | false =>
        have HN : Hid (riseB ltN l = false) := riseB_stop (k := k + 1) (by omega) (by rw [Nat.add_sub_cancel]; exact HX.out) HY.out hq
        rw [hq] at HC
        clear hq
        have HCM := Lib.hid (HCMP.out x y)
        generalize cmpI x y = c at HC HCM
        have hd : decide (0 ≤ c) = true := HC.out
        go_wp2_with fail
        go_quiet ((go_at_call 57; exact Calls.quiet_of_same ((HCM.out _).mono fun e w' ⟨h1, h2⟩ => ⟨h1, h2.symm⟩)))
        go_wp2_with fail
        go_ret
        exact ⟨by rw [← HRES.out, HN.out]; rfl, below_drewN HB.out _⟩
    · have hge : ¬ ((k : Int) + 1 < (l.length : Int)) := by omega
      rw [List.take_of_length_le (by omega)] at HT
      by_cases h64 : l.length ≤ 64
      · go_wp2_with fail
        go_ret
        exact ⟨by rw [← HRES.out, HT.out]; simp [h64]; omega, HB.out⟩
      · go_wp2_with fail
        go_ret
        exact ⟨by rw [← HRES.out, HT.out]; simp [h64]; omega, HB.out⟩

set_option maxHeartbeats 4000000 in
theorem rise_u64 (A : Option Addr) (cap : Nat) (l : List Nat) (w : World) (h : Rd w A 1 (nums .u64 l)) (hl : l.length ≤ cap) (hc : cap ≤ 9223372036854775807) :
    Calls Tryz.prog 58 #[.slice A l.length cap, .func (.func 59) #[] #[]] w fun e w' => e = .returned (.bool (riseB ltN l && decide (l.length ≤ 64))) ∧ Below w.heap.size w w' := by
  have HR := Lib.hid h
  have HCMP := Lib.hid cmp_u64
  clear h
  generalize hres : (riseB ltN l && decide (l.length ≤ 64)) = res
  have HRES := Lib.hid hres
  clear hres
  go_enter Tryz.func58, Tryz.ntmps58
  go_wp2_with fail
  go_loopw [5] (fun i wr => ∃ k : Nat, i = .int .i64 ((k : Int) + 1) ∧ Hid (riseB ltN (l.take (k + 1)) = true) ∧ Hid (Below w.heap.size w wr)) (fun i _ => l.length + 2 - (intOf i).toNat)
  case atStart => exact ⟨0, rfl, riseB_one _ _, Below.refl _ _⟩
  case round =>
    obtain ⟨k, rfl, HT, HB⟩ := hrel
    by_cases hlt : k + 1 < l.length
    · obtain ⟨x, hx⟩ : ∃ x, l[k]? = some x := ⟨l[k], List.getElem?_eq_getElem (by omega)⟩
      obtain ⟨y, hy⟩ : ∃ y, l[k + 1]? = some y := ⟨l[k + 1], List.getElem?_eq_getElem (by omega)⟩
      obtain ⟨b, off, rfl, hb, hcell1, hcell2⟩ := num_both (HR.out.below HB.out (Nat.le_refl _)) hx hy
      have hlt' : (k : Int) + 1 < (l.length : Int) := by omega
      have HX := Lib.hid hx
      have HY := Lib.hid hy
      have HC := Lib.hid (cmpI_neg x y)
      clear hx hy
      have hv1 : IntKind.i64.wrap ((k : Int) + 1 - 1) = k := by rw [show (k : Int) + 1 - 1 = k by omega]; exact IntWalk.i64_in _ (by omega)
      cases hq : ltN x y with
      | true =>
        have HN : Hid (riseB ltN (l.take (k + 1 + 1)) = true) := riseB_next HT.out (by omega) (by rw [Nat.add_sub_cancel]; exact HX.out) HY.out hq
        rw [hq] at HC
        clear hq
        have HCM := Lib.hid (HCMP.out x y)
        generalize cmpI x y = c at HC HCM
        have hd : decide (0 ≤ c) = false := HC.out
        go_wp2_with fail
        go_quiet ((go_at_call 59; exact Calls.quiet_of_same ((HCM.out _).mono fun e w' ⟨h1, h2⟩ => ⟨h1, h2.symm⟩)))
        go_wp2_with fail
        exact ⟨⟨k + 1, by go_num, HN.out, below_drewN HB.out _⟩, by simp [intOf]; omega⟩
      | false =>
        have HN : Hid (riseB ltN l = false) := riseB_stop (k := k + 1) (by omega) (by rw [Nat.add_sub_cancel]; exact HX.out) HY.out hq
        rw [hq] at HC
        clear hq
        have HCM := Lib.hid (HCMP.out x y)
        generalize cmpI x y = c at HC HCM
        have hd : decide (0 ≤ c) = true := HC.out
        go_wp2_with fail
        go_quiet ((go_at_call 59; exact Calls.quiet_of_same ((HCM.out _).mono fun e w' ⟨h1, h2⟩ => ⟨h1, h2.symm⟩)))
        go_wp2_with fail
        go_ret
        exact ⟨by rw [← HRES.out, HN.out]; rfl, below_drewN HB.out _⟩
    · have hge : ¬ ((k : Int) + 1 < (l.length : Int)) := by omega
      rw [List.take_of_length_le (by omega)] at HT
      by_cases h64 : l.length ≤ 64
      · go_wp2_with fail
        go_ret
        exact ⟨by rw [← HRES.out, HT.out]; simp [h64]; omega, HB.out⟩
      · go_wp2_with fail
        go_ret
        exact ⟨by rw [← HRES.out, HT.out]; simp [h64]; omega, HB.out⟩
end Go.Proofs.YtojiieghjhjoaaaGreat
