/-
  Timers: what the document's lists do, in plain Lean: insertion in order, what is due. Conditions: none. Plain Lean, no program in sight.
-/
import Derived.Test.YtcgegaahdbnacaaWhA
set_option linter.unusedVariables false
set_option linter.unusedSimpArgs false
namespace Go.Proofs.Ytcgegaahdbnacaa

theorem Ord.ins {l : List Tm} {x : Tm} {n : Nat} (h : Ord l) (hn : n ≤ l.length) (hx : ∀ y ∈ l, y.k ≠ x.k) (h1 : ∀ j y, n ≤ j → l[j]? = some y → tlt x y = true) (h2 : n = 0 ∨ ∃ y, l[n - 1]? = some y ∧ tlt x y = false) :
    Ord (l.take n ++ x :: l.drop n) := by
  unfold Ord at h ⊢
  have h' := h
  rw [← List.take_append_drop n l] at h
  obtain ⟨a1, a2, a3⟩ := List.pairwise_append.1 h
  have hxd : ∀ y ∈ l.drop n, tlt x y = true := fun y hy => by
    obtain ⟨j, hj⟩ := List.getElem?_of_mem hy
    rw [List.getElem?_drop] at hj
    exact h1 (n + j) y (by omega) hj
  have hxt : ∀ y ∈ l.take n, tlt y x = true := fun y hy => by
    obtain ⟨j, hj⟩ := List.getElem?_of_mem hy
    rw [List.getElem?_take] at hj
    split at hj
    · rename_i hjn
      rcases h2 with rfl | ⟨z, hz, hzx⟩
      · omega
      · have hzx' : tlt z x = true := by
          rcases tlt_total z x with e | e | e
          · exact e
          · exact absurd (congrArg Tm.k e) (hx z (List.mem_of_getElem? hz))
          · rw [e] at hzx; cases hzx
        by_cases e : j = n - 1
        · subst e
          rw [hz] at hj
          injection hj with hj
          exact hj ▸ hzx'
        · obtain ⟨b1, b2⟩ := List.getElem?_eq_some_iff.1 hj
          obtain ⟨c1, c2⟩ := List.getElem?_eq_some_iff.1 hz
          have := List.pairwise_iff_getElem.1 h' j (n - 1) b1 c1 (by omega)
          rw [b2, c2] at this
          exact tlt_trans this hzx'
    · cases hj
  refine List.pairwise_append.2 ⟨a1, List.pairwise_cons.2 ⟨hxd, a2⟩, fun a ha b hb => ?_⟩
  rcases List.mem_cons.1 hb with rfl | hb
  · exact hxt a ha
  · exact a3 a ha b hb
theorem perm_ins {l : List Tm} (x : Tm) (n : Nat) : (l.take n ++ x :: l.drop n).Perm (l ++ [x]) := by
  have h1 : (l.take n ++ x :: l.drop n).Perm (x :: (l.take n ++ l.drop n)) := List.perm_middle
  rw [List.take_append_drop] at h1
  exact h1.trans (List.perm_append_singleton x l).symm
theorem tlt_at {a b : Tm} (h : tlt a b = true) : a.at_ ≤ b.at_ := by
  simp only [tlt, Bool.or_eq_true, Bool.and_eq_true, decide_eq_true_eq] at h
  rcases h with h | ⟨h, _⟩ <;> omega
/-- what is due -/
def dueL (now : Nat) (l : List Tm) : List Tm := l.filter fun x => decide (x.at_ ≤ now)
def restL (now : Nat) (l : List Tm) : List Tm := l.filter fun x => !decide (x.at_ ≤ now)
theorem due_take {l : List Tm} {now n : Nat} (h : Ord l) (hn : n ≤ l.length) (h1 : ∀ j y, j < n → l[j]? = some y → y.at_ ≤ now) (h2 : ∀ y, l[n]? = some y → now < y.at_) : l.take n = dueL now l ∧ l.drop n = restL now l := by
  have hd : ∀ y ∈ l.drop n, now < y.at_ := fun y hy => by
    obtain ⟨j, hj⟩ := List.getElem?_of_mem hy
    rw [List.getElem?_drop] at hj
    obtain ⟨b1, b2⟩ := List.getElem?_eq_some_iff.1 hj
    by_cases e : j = 0
    · subst e
      exact h2 y hj
    · have c1 : n < l.length := by omega
      have := List.pairwise_iff_getElem.1 h n (n + j) c1 b1 (by omega)
      have g := h2 l[n] (List.getElem?_eq_getElem c1)
      have := tlt_at this
      rw [b2] at this
      omega
  have ht : ∀ y ∈ l.take n, y.at_ ≤ now := fun y hy => by
    obtain ⟨j, hj⟩ := List.getElem?_of_mem hy
    rw [List.getElem?_take] at hj
    split at hj
    · rename_i hjn
      exact h1 j y hjn hj
    · cases hj
  constructor
  · unfold dueL
    conv => rhs; rw [← List.take_append_drop n l]
    rw [List.filter_append, List.filter_eq_self.2 (fun y hy => by simpa using ht y hy), List.filter_eq_nil_iff.2 (fun y hy => by have := hd y hy; simp; omega), List.append_nil]
  · unfold restL
    conv => rhs; rw [← List.take_append_drop n l]
    rw [List.filter_append, List.filter_eq_nil_iff.2 (fun y hy => by have := ht y hy; simp; omega), List.filter_eq_self.2 (fun y hy => by have := hd y hy; simp; omega), List.nil_append]
theorem Ord.due {l : List Tm} (h : Ord l) (now : Nat) : Ord (dueL now l) := h.sub List.filter_sublist
theorem Ord.rest {l : List Tm} (h : Ord l) (now : Nat) : Ord (restL now l) := h.sub List.filter_sublist
theorem due_rest_perm (l : List Tm) (now : Nat) : (dueL now l ++ restL now l).Perm l := List.filter_append_perm _ _
end Go.Proofs.Ytcgegaahdbnacaa
