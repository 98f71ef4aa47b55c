/-
  Several texts in one.
-/
import Derived.Test.YtldpcliahfiloaaSW15
set_option linter.unusedVariables false
set_option linter.unusedSimpArgs false
namespace Go.Proofs.Ytldpcliahfiloaa
open Go.RowKit

/-- is a number among others? -/
def hasN (l : List Nat) (n : Int) : Bool := l.any fun x => (x : Int) == n
theorem hasN_take {l : List Nat} {k : Nat} {x : Nat} (n : Int) (h : l[k]? = some x) : hasN (l.take (k + 1)) n = (hasN (l.take k) n || (x : Int) == n) := by
  unfold hasN
  rw [List.take_add_one, h, Option.toList_some, List.any_append, List.any_cons, List.any_nil, Bool.or_false]
theorem hasN_yes {l : List Nat} {k : Nat} {x : Nat} {n : Int} (h : l[k]? = some x) (he : (x : Int) = n) : hasN l n = true := by
  unfold hasN
  exact List.any_eq_true.2 ⟨x, List.mem_of_getElem? h, by rw [he]; simp⟩
/-- each less than the next one -/
def riseB {α : Type} (lt : α → α → Bool) : List α → Bool
  | a :: b :: r => lt a b && riseB lt (b :: r)
  | _ => true
theorem riseB_iff {α : Type} (lt : α → α → Bool) : ∀ l : List α, riseB lt l = true ↔ ∀ i a b, l[i]? = some a → l[i + 1]? = some b → lt a b = true
  | [] => ⟨fun _ i a b h => (by simp at h), fun _ => rfl⟩
  | [a] => ⟨fun _ i a b h h2 => (by simp at h2), fun _ => rfl⟩
  | a :: b :: r => by
    rw [riseB, Bool.and_eq_true, riseB_iff lt (b :: r)]
    constructor
    · rintro ⟨h1, h2⟩ i x y hx hy
      cases i with
      | zero =>
        simp only [List.getElem?_cons_zero, Option.some.injEq, Nat.zero_add, List.getElem?_cons_succ] at hx hy
        subst hx
        subst hy
        exact h1
      | succ i => exact h2 i x y (by simpa using hx) (by simpa using hy)
    · intro h
      exact ⟨h 0 a b rfl rfl, fun i x y hx hy => h (i + 1) x y (by simpa using hx) (by simpa using hy)⟩
theorem riseB_one {α : Type} (lt : α → α → Bool) (l : List α) : riseB lt (l.take 1) = true := by
  cases l <;> rfl
theorem riseB_next {α : Type} {lt : α → α → Bool} {l : List α} {k : Nat} {a b : α} (h : riseB lt (l.take k) = true) (hk : 1 ≤ k) (ha : l[k - 1]? = some a) (hb : l[k]? = some b) (hl : lt a b = true) : riseB lt (l.take (k + 1)) = true := by
  rw [riseB_iff] at h ⊢
  intro i x y hx hy
  rw [List.getElem?_take] at hx hy
  split at hy
  · split at hx
    · by_cases e : i + 1 = k
      · have e2 : i = k - 1 := by omega
        rw [e, hb] at hy
        rw [e2, ha] at hx
        cases hx
        cases hy
        exact hl
      · exact h i x y (by rw [List.getElem?_take, if_pos (by omega)]; exact hx) (by rw [List.getElem?_take, if_pos (by omega)]; exact hy)
    · cases hx
  · cases hy
theorem riseB_stop {α : Type} {lt : α → α → Bool} {l : List α} {k : Nat} {a b : α} (hk : 1 ≤ k) (ha : l[k - 1]? = some a) (hb : l[k]? = some b) (hl : lt a b = false) : riseB lt l = false := by
  rw [Bool.eq_false_iff]
  intro h
  rw [riseB_iff] at h
  have := h (k - 1) a b ha (by rw [show k - 1 + 1 = k by omega]; exact hb)
  rw [hl] at this
  cases this
def ltN (a b : Nat) : Bool := decide (a < b)
def ltL (a b : Lg) : Bool := if a.g = b.g then (if a.a = b.a then decide (a.b < b.b) else decide (a.a < b.a)) else decide (a.g < b.g)
/-- may a segment be? -/
def segOk (s : Int × List Nat) : Bool := decide (1 ≤ s.1) && decide (s.1 ≤ 4) && decide (1 ≤ s.2.length) && decide (s.2.length ≤ 255) && !hasN s.2 0
def pathOk (l : List (Int × List Nat)) : Bool := decide (l.length ≤ 16) && l.all segOk
def okN (b : Bool) : Int := if b = true then 0 else 2
def nextOk (n : ByteArray) : Bool := n.size == 0 || n.size == 4 || n.size == 16
def spareOk (c : AtC) : Bool := (c.hasMed || c.med == 0) && (c.hasPref || c.pref == 0) && (c.hasOrig || c.orig == 0) && (!(c.aggAs == 0) || c.aggId == 0)
def listsOk (c : AtC) : Bool := decide (c.clus.length ≤ 32) && (riseB ltN c.comms && decide (c.comms.length ≤ 64)) && (riseB ltN c.exts && decide (c.exts.length ≤ 64)) && (riseB ltL c.larges && decide (c.larges.length ≤ 64))
def atOk (c : AtC) : Bool := decide (0 ≤ c.origin) && decide (c.origin ≤ 2) && pathOk c.path && nextOk c.next && spareOk c && listsOk c
end Go.Proofs.Ytldpcliahfiloaa
