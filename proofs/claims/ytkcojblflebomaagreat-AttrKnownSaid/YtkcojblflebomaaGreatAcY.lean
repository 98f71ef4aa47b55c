/-
  Neighbours alike once: plain laws of what slices.Compact leaves. Conditions: none.
-/
import Derived.Test.YtkcojblflebomaaGreatAaC
set_option linter.unusedVariables false
set_option linter.unusedSimpArgs false
namespace Go.Proofs.YtkcojblflebomaaGreat
open Go.RowKit

/-- of neighbours alike one -/
def dd {α : Type} [DecidableEq α] : List α → List α
  | a :: b :: r => if a = b then dd (b :: r) else a :: dd (b :: r)
  | l => l
theorem dd_head {α : Type} [DecidableEq α] : ∀ (b : α) (r : List α), ∃ t, dd (b :: r) = b :: t
  | b, [] => ⟨[], rfl⟩
  | b, a :: r => by
    obtain ⟨t, ht⟩ := dd_head a r
    unfold dd
    split
    · rename_i e
      exact ⟨t, by rw [ht, e]⟩
    · exact ⟨_, rfl⟩
theorem dd_snoc {α : Type} [DecidableEq α] : ∀ (l : List α) (b a : α), dd (l ++ [b, a]) = if a = b then dd (l ++ [b]) else dd (l ++ [b]) ++ [a]
  | [], b, a => by
    show (if b = a then [a] else b :: [a]) = _
    by_cases h : a = b
    · rw [if_pos h.symm, if_pos h, h]; rfl
    · rw [if_neg (fun e => h e.symm), if_neg h]; rfl
  | [x], b, a => by
    have ih := dd_snoc [] b a
    show (if x = b then dd ([] ++ [b, a]) else x :: dd ([] ++ [b, a])) = if a = b then (if x = b then dd ([] ++ [b]) else x :: dd ([] ++ [b])) else (if x = b then dd ([] ++ [b]) else x :: dd ([] ++ [b])) ++ [a]
    rw [ih]
    split <;> split <;> rfl
  | x :: y :: r, b, a => by
    have ih := dd_snoc (y :: r) b a
    show (if x = y then dd ((y :: r) ++ [b, a]) else x :: dd ((y :: r) ++ [b, a])) = if a = b then (if x = y then dd ((y :: r) ++ [b]) else x :: dd ((y :: r) ++ [b])) else (if x = y then dd ((y :: r) ++ [b]) else x :: dd ((y :: r) ++ [b])) ++ [a]
    rw [ih]
    split <;> split <;> rfl
theorem dd_len {α : Type} [DecidableEq α] : ∀ l : List α, (dd l).length ≤ l.length
  | [] => Nat.le_refl _
  | [a] => Nat.le_refl _
  | a :: b :: r => by
    have ih := dd_len (b :: r)
    unfold dd
    split
    · rw [List.length_cons]; omega
    · rw [List.length_cons, List.length_cons]; omega
theorem dd_mem {α : Type} [DecidableEq α] {x : α} : ∀ l : List α, x ∈ dd l ↔ x ∈ l
  | [] => Iff.rfl
  | [a] => Iff.rfl
  | a :: b :: r => by
    have ih := dd_mem (x := x) (b :: r)
    unfold dd
    split
    · rename_i e
      subst e
      rw [ih]
      simp
    · rw [List.mem_cons, ih, List.mem_cons (a := x) (b := a)]
/-- in order: it rises, each once -/
theorem dd_rise {α : Type} [DecidableEq α] (lt : α → α → Bool) (ht : ∀ a b, lt b a = false → a = b ∨ lt a b = true) : ∀ l : List α, (∀ i a b, l[i]? = some a → l[i + 1]? = some b → lt b a = false) → riseB lt (dd l) = true
  | [], _ => rfl
  | [a], _ => rfl
  | a :: b :: r, h => by
    have ih := dd_rise lt ht (b :: r) (fun i x y hx hy => h (i + 1) x y (by simpa using hx) (by simpa using hy))
    unfold dd
    split
    · exact ih
    · rename_i e
      obtain ⟨t, h2⟩ := dd_head b r
      rw [h2] at ih ⊢
      rw [riseB, Bool.and_eq_true]
      refine ⟨?_, ih⟩
      rcases ht a b (h 0 a b rfl rfl) with h3 | h3
      · exact absurd h3 e
      · exact h3
/-- what rises stays -/
theorem dd_same {α : Type} [DecidableEq α] (lt : α → α → Bool) (hi : ∀ a, lt a a = false) : ∀ l : List α, riseB lt l = true → dd l = l
  | [], _ => rfl
  | [a], _ => rfl
  | a :: b :: r, h => by
    rw [riseB, Bool.and_eq_true] at h
    have ih := dd_same lt hi (b :: r) h.2
    unfold dd
    rw [if_neg (fun e => by rw [e, hi] at h; cases h.1), ih]
theorem ltN_total (a b : Nat) (h : ltN b a = false) : a = b ∨ ltN a b = true := by
  unfold ltN at *
  simp at *
  omega
theorem ltN_irrefl (a : Nat) : ltN a a = false := by
  unfold ltN
  simp
end Go.Proofs.YtkcojblflebomaaGreat
