/-
  What the steps read of an entry; comparisons. Conditions: sizes.
-/
import Derived.Test.YtoamigfjpcniaaaDeB
set_option linter.unusedVariables false
set_option linter.unusedSimpArgs false
namespace Go.Proofs.Ytoamigfjpcniaaa
open Go.RowKit Go.MapKept Go.Shelf
open Go.Lib hiding intOf

/-- a path's neighbour -/
def neiF (p : Pt) : Nat := (firstF p.segs).getD 0
theorem neighbour_any (p : Pt) (w : World) (h : PtOk w p) : Calls Try.prog 14 #[p.v] w fun e w' => e = .returned (.int .u32 (neiF p)) ∧ Below w.heap.size w w' := by
  have HA := Lib.hid (fun cs => Below.alloc (Below.refl w.heap.size w) (Nat.le_refl _) (.cells cs 38))
  have HCON := Lib.hid (fun (w' : World) (hb : Below w.heap.size w w') => first_any p.pA p.segs p.pC w' (h.rd.below hb (Nat.le_refl _)) h.len h.cap (fun s hs => (h.segs s hs).below hb (Nat.le_refl _)))
  clear h
  unfold Pt.v neiF
  cases hf : firstF p.segs with
  | none =>
    rw [hf] at HCON
    go_enter Try.func14, Try.ntmps14
    go_wp2_with fail
    refine (HCON.out _ (HA.out _)).mono ?_
    rintro e w1 ⟨rfl, hb⟩
    have HB := Lib.hid ((HA.out _).trans (hb.mono (HA.out _).size))
    clear hb
    unfold firstV
    go_wp2_with fail
    go_ret
    exact ⟨rfl, HB.out⟩
  | some n =>
    rw [hf] at HCON
    go_enter Try.func14, Try.ntmps14
    go_wp2_with fail
    refine (HCON.out _ (HA.out _)).mono ?_
    rintro e w1 ⟨rfl, hb⟩
    have HB := Lib.hid ((HA.out _).trans (hb.mono (HA.out _).size))
    clear hb
    unfold firstV
    go_wp2_with fail
    go_ret
    exact ⟨rfl, HB.out⟩

theorem nan32_any (x : Int) (w : World) : Calls Try.prog 89 #[.int .u32 x] w fun e w' => e = .returned (.bool false) ∧ w' = w := by
  go_enter Try.func89, Try.ntmps89
  go_wp2_with fail
  go_ret
  exact ⟨rfl, rfl⟩
/-- two numbers' order -/
def cmpF (x y : Int) : Int := if x < y then -1 else if y < x then 1 else 0
theorem cmp32_any (x y : Int) (w : World) : Calls Try.prog 56 #[.int .u32 x, .int .u32 y] w fun e w' => e = .returned (.int .i64 (cmpF x y)) ∧ w' = w := by
  unfold cmpF
  by_cases h1 : x < y
  · rw [if_pos h1]
    go_enter Try.func56, Try.ntmps56
    go_wp2_with fail
    refine (nan32_any _ _).mono ?_
    rintro e wq ⟨rfl, hw⟩
    have hw := hw.symm
    subst hw
    go_wp2_with fail
    refine (nan32_any _ _).mono ?_
    rintro e wq ⟨rfl, hw⟩
    have hw := hw.symm
    subst hw
    go_wp2_with fail
    go_ret
    exact ⟨rfl, rfl⟩
  · rw [if_neg h1]
    by_cases h2 : y < x
    · rw [if_pos h2]
      go_enter Try.func56, Try.ntmps56
      go_wp2_with fail
      refine (nan32_any _ _).mono ?_
      rintro e wq ⟨rfl, hw⟩
      have hw := hw.symm
      subst hw
      go_wp2_with fail
      refine (nan32_any _ _).mono ?_
      rintro e wq ⟨rfl, hw⟩
      have hw := hw.symm
      subst hw
      go_wp2_with fail
      go_ret
      exact ⟨rfl, rfl⟩
    · rw [if_neg h2]
      go_enter Try.func56, Try.ntmps56
      go_wp2_with fail
      refine (nan32_any _ _).mono ?_
      rintro e wq ⟨rfl, hw⟩
      have hw := hw.symm
      subst hw
      go_wp2_with fail
      refine (nan32_any _ _).mono ?_
      rintro e wq ⟨rfl, hw⟩
      have hw := hw.symm
      subst hw
      go_wp2_with fail
      go_ret
      exact ⟨rfl, rfl⟩

def locF (p : Pt) : Int := if p.kind = 1 then 0 else 1
def rankF (p : Pt) : Int := if p.kind = 1 then 0 else if p.kind = 2 then 1 else if p.kind = 3 then 2 else 3
def medF (p : Pt) : Int := if p.hasMed = true then p.med else 0
def identF (p : Pt) : Int := if p.hasOrig = true then p.orig else p.sid
theorem local_any (x : En) (w : World) : Calls Try.prog 59 #[x.v] w fun e w' => e = .returned (.int .i64 (locF x.p)) ∧ Below w.heap.size w w' := by
  have HA := Lib.hid (fun cs => Below.alloc (Below.refl w.heap.size w) (Nat.le_refl _) (.cells cs 79))
  unfold En.v locF
  rcases beq_facts x.p.kind 1 with ⟨k1, g1⟩ | ⟨k1, g1⟩
  · rw [if_pos k1, k1]
    go_enter Try.func59, Try.ntmps59
    go_wp2_with fail
    go_ret
    exact ⟨rfl, HA.out _⟩
  · rw [if_neg k1]
    go_enter Try.func59, Try.ntmps59
    go_wp2_with fail
    go_ret
    exact ⟨rfl, HA.out _⟩
theorem rank_any (x : En) (w : World) : Calls Try.prog 64 #[x.v] w fun e w' => e = .returned (.int .i64 (rankF x.p)) ∧ Below w.heap.size w w' := by
  have HA := Lib.hid (fun cs => Below.alloc (Below.refl w.heap.size w) (Nat.le_refl _) (.cells cs 79))
  unfold En.v rankF
  rcases beq_facts x.p.kind 1 with ⟨k1, g1⟩ | ⟨k1, g1⟩
  · rw [if_pos k1, k1]
    go_enter Try.func64, Try.ntmps64
    go_wp2_with fail
    go_ret
    exact ⟨rfl, HA.out _⟩
  · rw [if_neg k1]
    rcases beq_facts x.p.kind 2 with ⟨k2, g2⟩ | ⟨k2, g2⟩
    · rw [if_pos k2, k2]
      go_enter Try.func64, Try.ntmps64
      go_wp2_with fail
      go_ret
      exact ⟨rfl, HA.out _⟩
    · rw [if_neg k2]
      rcases beq_facts x.p.kind 3 with ⟨k3, g3⟩ | ⟨k3, g3⟩
      · rw [if_pos k3, k3]
        go_enter Try.func64, Try.ntmps64
        go_wp2_with fail
        go_ret
        exact ⟨rfl, HA.out _⟩
      · rw [if_neg k3]
        go_enter Try.func64, Try.ntmps64
        go_wp2_with fail
        go_ret
        exact ⟨rfl, HA.out _⟩
theorem med_any (x : En) (w : World) : Calls Try.prog 91 #[x.v] w fun e w' => e = .returned (.int .u32 (medF x.p)) ∧ Below w.heap.size w w' := by
  have HA := Lib.hid (fun cs => Below.alloc (Below.refl w.heap.size w) (Nat.le_refl _) (.cells cs 79))
  unfold En.v medF
  by_cases h : x.p.hasMed = true
  · rw [h, if_pos rfl]
    go_enter Try.func91, Try.ntmps91
    go_wp2_with fail
    go_ret
    exact ⟨rfl, HA.out _⟩
  · have h := Bool.eq_false_iff.2 h
    rw [h, if_neg (by simp)]
    go_enter Try.func91, Try.ntmps91
    go_wp2_with fail
    go_ret
    exact ⟨rfl, HA.out _⟩
theorem ident_any (x : En) (w : World) : Calls Try.prog 67 #[x.v] w fun e w' => e = .returned (.int .u32 (identF x.p)) ∧ Below w.heap.size w w' := by
  have HA := Lib.hid (fun cs => Below.alloc (Below.refl w.heap.size w) (Nat.le_refl _) (.cells cs 79))
  unfold En.v identF
  by_cases h : x.p.hasOrig = true
  · rw [h, if_pos rfl]
    go_enter Try.func67, Try.ntmps67
    go_wp2_with fail
    go_ret
    exact ⟨rfl, HA.out _⟩
  · have h := Bool.eq_false_iff.2 h
    rw [h, if_neg (by simp)]
    go_enter Try.func67, Try.ntmps67
    go_wp2_with fail
    go_ret
    exact ⟨rfl, HA.out _⟩
end Go.Proofs.Ytoamigfjpcniaaa
