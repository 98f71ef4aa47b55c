/-
  Several texts in one.
-/
import Derived.Test.YtldpcliahfiloaaSW35
set_option linter.unusedVariables false
set_option linter.unusedSimpArgs false
namespace Go.Proofs.Ytldpcliahfiloaa
open Go.RowKit Go.MapKept
open Go.Lib hiding intOf

/-- what was told at a place, its content -/
structure TdC where
  k : Pk
  label : Nat
  c : AtC
  stale : Bool
def Td.c (t : Td) : TdC := ⟨t.k, t.label, t.a.c, t.stale⟩
def getC (M : List TdC) (k : Pk) : Option TdC := M.find? fun t => decide (t.k = k)
def setC : List TdC → TdC → List TdC
  | [], t => [t]
  | x :: r, t => if x.k = t.k then t :: r else x :: setC r t
def delC (M : List TdC) (k : Pk) : List TdC := M.filter fun t => !decide (t.k = k)
def KeysC (M : List TdC) : Prop := M.Pairwise fun p q => p.k ≠ q.k
theorem getC_some {M : List TdC} {k : Pk} {t : TdC} (h : getC M k = some t) : t ∈ M ∧ t.k = k :=
  ⟨List.mem_of_find?_eq_some h, by have := List.find?_some h; simpa using this⟩
theorem getC_none {M : List TdC} {k : Pk} (h : getC M k = none) : ∀ t ∈ M, t.k ≠ k := fun t ht e => by
  have := List.find?_eq_none.1 h t ht
  simp [e] at this
theorem getC_mem {M : List TdC} (hk : KeysC M) {t : TdC} (ht : t ∈ M) : getC M t.k = some t := by
  induction M with
  | nil => cases ht
  | cons x r ih =>
    unfold getC at ih ⊢
    rw [List.find?_cons]
    rcases List.mem_cons.1 ht with rfl | h
    · simp
    · have hne : x.k ≠ t.k := (List.pairwise_cons.1 hk).1 t h
      simp only [hne, decide_false]
      exact ih (List.pairwise_cons.1 hk).2 h
theorem setC_mem {t y : TdC} : ∀ {M : List TdC}, y ∈ setC M t → y = t ∨ (y ∈ M ∧ (KeysC M → y.k ≠ t.k))
  | [], h => .inl (List.mem_singleton.1 h)
  | x :: r, h => by
    unfold setC at h
    split at h
    · rename_i e
      rcases List.mem_cons.1 h with rfl | h
      · exact .inl rfl
      · exact .inr ⟨List.mem_cons_of_mem _ h, fun hk e2 => (List.pairwise_cons.1 hk).1 y h (e.trans e2.symm)⟩
    · rename_i e
      rcases List.mem_cons.1 h with rfl | h
      · exact .inr ⟨List.mem_cons_self .., fun _ => e⟩
      · rcases setC_mem h with h2 | ⟨h2, h3⟩
        · exact .inl h2
        · exact .inr ⟨List.mem_cons_of_mem _ h2, fun hk => h3 (List.pairwise_cons.1 hk).2⟩
theorem setC_len (M : List TdC) (t : TdC) : (setC M t).length = if (getC M t.k).isSome = true then M.length else M.length + 1 := by
  induction M with
  | nil => rfl
  | cons x r ih =>
    unfold setC
    unfold getC at ih ⊢
    rw [List.find?_cons]
    by_cases h : x.k = t.k
    · rw [if_pos h]; simp [h]
    · rw [if_neg h]
      simp only [h, decide_false, List.length_cons, ih]
      split <;> rfl
/-- a list in memory: what is put in its place -/
theorem map_set {S : List Td} (hk : S.Pairwise fun p q => p.k ≠ q.k) {j : Nat} {p t : Td} (hj : S[j]? = some p) (he : p.k = t.k) : (S.set j t).map Td.c = setC (S.map Td.c) t.c := by
  induction S generalizing j with
  | nil => cases hj
  | cons x r ih =>
    have hr := List.pairwise_cons.1 hk
    cases j with
    | zero =>
      simp only [List.getElem?_cons_zero, Option.some.injEq] at hj
      subst hj
      show (t :: r).map Td.c = setC (x.c :: r.map Td.c) t.c
      unfold setC
      rw [if_pos (show x.c.k = t.c.k from he)]
      rfl
    | succ j =>
      rw [List.getElem?_cons_succ] at hj
      have hne : x.c.k ≠ t.c.k := fun e => hr.1 p (List.mem_of_getElem? hj) (e.trans he.symm)
      show x.c :: (r.set j t).map Td.c = setC (x.c :: r.map Td.c) t.c
      unfold setC
      rw [if_neg hne, ih hr.2 hj]
theorem map_snoc {S : List Td} {t : Td} (h : ∀ p ∈ S, p.k ≠ t.k) : (S ++ [t]).map Td.c = setC (S.map Td.c) t.c := by
  induction S with
  | nil => rfl
  | cons x r ih =>
    show x.c :: (r ++ [t]).map Td.c = setC (x.c :: r.map Td.c) t.c
    unfold setC
    rw [if_neg (show ¬ x.c.k = t.c.k from h x (List.mem_cons_self ..)), ih (fun p hp => h p (List.mem_cons_of_mem _ hp))]
theorem map_erase {S : List Td} (hk : S.Pairwise fun p q => p.k ≠ q.k) {j : Nat} {p : Td} {k : Pk} (hj : S[j]? = some p) (he : p.k = k) : (S.eraseIdx j).map Td.c = delC (S.map Td.c) k := by
  induction S generalizing j with
  | nil => cases hj
  | cons x r ih =>
    have hr := List.pairwise_cons.1 hk
    unfold delC at *
    cases j with
    | zero =>
      simp only [List.getElem?_cons_zero, Option.some.injEq] at hj
      subst hj
      rw [List.eraseIdx_cons_zero, List.map_cons, List.filter_cons, if_neg (by show ¬ (!decide (x.k = k)) = true; simp [he])]
      symm
      refine List.filter_eq_self.2 fun t ht => ?_
      obtain ⟨y, hy, rfl⟩ := List.mem_map.1 ht
      have : y.c.k ≠ k := fun e => hr.1 y hy (he.trans e.symm)
      simp [this]
    | succ j =>
      rw [List.getElem?_cons_succ] at hj
      have hne : x.c.k ≠ k := fun e => hr.1 p (List.mem_of_getElem? hj) (e.trans he.symm)
      rw [List.eraseIdx_cons_succ, List.map_cons, List.map_cons, List.filter_cons, if_pos (by simp [hne]), ih hr.2 hj]
theorem keys_c {S : List Td} (hk : S.Pairwise fun p q => p.k ≠ q.k) : KeysC (S.map Td.c) := by
  unfold KeysC
  rw [List.pairwise_map]
  exact hk
theorem get_at {S : List Td} (hk : S.Pairwise fun p q => p.k ≠ q.k) {j : Nat} {p : Td} (hj : S[j]? = some p) : getC (S.map Td.c) p.k = some p.c :=
  getC_mem (keys_c hk) (t := p.c) (List.mem_map.2 ⟨p, List.mem_of_getElem? hj, rfl⟩)
theorem get_no {S : List Td} {k : Pk} (h : ∀ p ∈ S, p.k ≠ k) : getC (S.map Td.c) k = none := by
  unfold getC
  rw [List.find?_eq_none]
  intro t ht
  obtain ⟨p, hp, rfl⟩ := List.mem_map.1 ht
  have h2 : p.c.k ≠ k := h p hp
  simp [h2]
/-- how many are of a family -/
def cntC (M : List TdC) (fam : Int) : Nat := (M.filter fun t => decide (t.k.fam = fam)).length
end Go.Proofs.Ytldpcliahfiloaa
