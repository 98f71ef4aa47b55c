/-
  Several texts in one.
-/
import Derived.Test.YtldpcliahfiloaaNW42
set_option linter.unusedVariables false
set_option linter.unusedSimpArgs false
namespace Go.Proofs.Ytldpcliahfiloaa
open Go.RowKit Go.MapKept
open Go.Lib hiding intOf

/-- a told prefix's place -/
def Nl.k (n : Nl) : Pk := ⟨n.fam, n.rd, n.addr, n.len, n.id.toNat⟩
/-- attributes of a MED alone -/
def medC (m : Nat) : AtC := ⟨0, [], ⟨#[]⟩, true, m, false, 0, false, 0, 0, [], [], [], false, 0, []⟩
/-- one step: taken away, or put if it may be -/
def stepN (gone : Nat → Bool) (i : Nat) (n : Nl) (M : List TdC) : List TdC :=
  if gone i = true then delC M n.k else if nlMay n then setC M ⟨n.k, n.label.toNat, medC i, false⟩ else M
def runN (gone : Nat → Bool) (L : List Nl) : Nat → List TdC
  | 0 => []
  | i + 1 => match L[i]? with
    | some n => stepN gone i n (runN gone L i)
    | none => runN gone L i
/-- does a step count? -/
def effN (gone : Nat → Bool) (k : Nat) (n : Nl) : Prop := gone k = true ∨ nlMay n
theorem step_other {gone : Nat → Bool} {i : Nat} {n : Nl} {M : List TdC} {P : Pk} (h : ¬ (n.k = P ∧ effN gone i n)) : getC (stepN gone i n M) P = getC M P := by
  unfold stepN
  unfold effN at h
  by_cases hg : gone i = true
  · have hne : n.k ≠ P := fun e => h ⟨e, .inl hg⟩
    rw [if_pos hg, delC_get, if_neg (fun e => hne e.symm)]
  · rw [if_neg hg]
    by_cases hm : nlMay n
    · have hne : n.k ≠ P := fun e => h ⟨e, .inr hm⟩
      rw [if_pos hm, setC_get, if_neg hne]
    · rw [if_neg hm]
/-- what counts no more changes nothing -/
theorem run_stay {gone : Nat → Bool} {L : List Nl} {i : Nat} {P : Pk} (h : ∀ k n, i < k → L[k]? = some n → ¬ (n.k = P ∧ effN gone k n)) : ∀ j, getC (runN gone L (i + 1 + j)) P = getC (runN gone L (i + 1)) P
  | 0 => rfl
  | j + 1 => by
    have ih := run_stay h j
    show getC (runN gone L (i + 1 + j + 1)) P = _
    unfold runN
    cases hx : L[i + 1 + j]? with
    | none => exact ih
    | some n =>
      show getC (stepN gone (i + 1 + j) n _) P = _
      rw [step_other (h _ n (by omega) hx)]
      exact ih
theorem run_new {gone : Nat → Bool} {L : List Nl} {P : Pk} : ∀ i, (∀ k n, k < i → L[k]? = some n → n.k ≠ P) → getC (runN gone L i) P = none
  | 0, _ => rfl
  | i + 1, h => by
    have ih := run_new (gone := gone) i (fun k n hk => h k n (by omega))
    unfold runN
    cases hx : L[i]? with
    | none => exact ih
    | some n =>
      show getC (stepN gone i n _) P = _
      rw [step_other (fun e => h i n (by omega) hx e.1)]
      exact ih
/-- what is there in the end at the place of a step that was the last to count there -/
theorem run_last {gone : Nat → Bool} {L : List Nl} {i : Nat} {n : Nl} (hi : L[i]? = some n) (hl : ∀ k x, i < k → L[k]? = some x → ¬ (x.k = n.k ∧ effN gone k x)) :
    (gone i = true → getC (runN gone L L.length) n.k = none) ∧ (gone i = false → nlMay n → getC (runN gone L L.length) n.k = some ⟨n.k, n.label.toNat, medC i, false⟩) ∧
    (gone i = false → ¬ nlMay n → (∀ k x, k < i → L[k]? = some x → x.k ≠ n.k) → getC (runN gone L L.length) n.k = none) := by
  have hlt : i < L.length := (List.getElem?_eq_some_iff.1 hi).1
  have e1 : getC (runN gone L L.length) n.k = getC (stepN gone i n (runN gone L i)) n.k := by
    have h := run_stay (P := n.k) hl (L.length - (i + 1))
    rw [show i + 1 + (L.length - (i + 1)) = L.length by omega] at h
    rw [h]
    show getC (match L[i]? with | some n => stepN gone i n (runN gone L i) | none => runN gone L i) n.k = _
    rw [hi]
  refine ⟨fun hg => ?_, fun hg hm => ?_, fun hg hm hb => ?_⟩
  · rw [e1]
    unfold stepN
    rw [if_pos hg, delC_get, if_pos rfl]
  · rw [e1]
    unfold stepN
    rw [if_neg (by rw [hg]; simp), if_pos hm, setC_get, if_pos rfl]
  · rw [e1]
    unfold stepN
    rw [if_neg (by rw [hg]; simp), if_neg hm]
    exact run_new i hb
theorem step_len {gone : Nat → Bool} {i : Nat} {n : Nl} {M : List TdC} : (stepN gone i n M).length ≤ M.length + 1 := by
  unfold stepN
  split
  · exact Nat.le_trans delC_len (by omega)
  · split
    · rw [setC_len]; split <;> omega
    · omega
theorem run_len (gone : Nat → Bool) (L : List Nl) : ∀ i, (runN gone L i).length ≤ i
  | 0 => Nat.le_refl _
  | i + 1 => by
    have ih := run_len gone L i
    unfold runN
    split
    · exact Nat.le_trans step_len (by omega)
    · omega
/-- all places are of a family that there is -/
def FamsC (M : List TdC) : Prop := ∀ t ∈ M, 1 ≤ t.k.fam ∧ t.k.fam ≤ 5
theorem set_fams {M : List TdC} (h : FamsC M) {t : TdC} (ht : 1 ≤ t.k.fam ∧ t.k.fam ≤ 5) : FamsC (setC M t) := fun y hy => by
  rcases setC_mem hy with rfl | ⟨h2, _⟩
  · exact ht
  · exact h y h2
theorem del_fams {M : List TdC} (h : FamsC M) (k : Pk) : FamsC (delC M k) := fun y hy => h y (List.mem_filter.1 hy).1
theorem may_fam {n : Nl} (h : nlMay n) : 1 ≤ n.k.fam ∧ n.k.fam ≤ 5 := by
  have h1 := famSize_five h.1.1
  exact h1
theorem run_fams (gone : Nat → Bool) (L : List Nl) : ∀ i, FamsC (runN gone L i)
  | 0 => fun t ht => by cases ht
  | i + 1 => by
    have ih := run_fams gone L i
    unfold runN
    split
    · unfold stepN
      split
      · exact del_fams ih _
      · split
        · rename_i hm
          exact set_fams ih (may_fam hm)
        · exact ih
    · exact ih
theorem nodup_sub {α : Type} [DecidableEq α] : ∀ (D M : List α), D.Nodup → (∀ d ∈ D, d ∈ M) → D.length ≤ M.length
  | [], _, _, _ => Nat.zero_le _
  | d :: r, M, hn, hs => by
    have hd := hs d (List.mem_cons_self ..)
    obtain ⟨h1, h2⟩ := List.nodup_cons.1 hn
    have ih := nodup_sub r (M.erase d) h2 (fun x hx => (List.mem_erase_of_ne (fun e => h1 (by rw [← e]; exact hx))).2 (hs x (List.mem_cons_of_mem _ hx)))
    rw [List.length_erase_of_mem hd] at ih
    have := List.length_pos_of_mem hd
    rw [List.length_cons]
    omega
end Go.Proofs.Ytldpcliahfiloaa
