/-
  Several texts in one.
-/
import Derived.Test.YtldpcliahfiloaaSW53
set_option linter.unusedVariables false
set_option linter.unusedSimpArgs false
namespace Go.Proofs.Ytldpcliahfiloaa
open Go.RowKit Go.MapKept Go.Shelf
open Go.Lib hiding intOf
open Go.Sort hiding Below

/-- a put that no bound stops -/
def putM (med : Nat) (M : List TdC) (k : Pk) (label : Nat) : List TdC := if nlMay (nlk k label) then setC M ⟨k, label, medC med, false⟩ else M
theorem put_free {M : List TdC} {k : Pk} {label n : Nat} : putC 0 M (nlk k label) (medC n) = (false, nlC (nlk k label), putM n M k label) := by
  unfold nlC putM
  by_cases hm : nlMay (nlk k label)
  · rw [if_pos hm, if_pos hm, putC_set ⟨hm, medC_ok n⟩ (fun h => absurd h.2.1 (by decide))]
    rfl
  · rw [if_neg hm, if_neg hm, putC_bad (fun h => hm h.1)]
theorem putM_len {med : Nat} {M : List TdC} {k : Pk} {label : Nat} : (putM med M k label).length ≤ M.length + 1 := by
  unfold putM
  split
  · rw [setC_len]
    split <;> omega
  · omega
theorem putM_mem {med : Nat} {M : List TdC} {k : Pk} {label : Nat} {t : TdC} (h : t ∈ putM med M k label) : t = ⟨k, label, medC med, false⟩ ∨ t ∈ M := by
  unfold putM at h
  split at h
  · rcases setC_mem h with h | h
    · exact .inl h
    · exact .inr h.1
  · exact .inr h
/-- told ahead of the mark -/
def Fresh1 (M : List TdC) : Prop := ∀ t ∈ M, t.stale = false ∧ t.c.med = 1
theorem Fresh1.put {M : List TdC} (h : Fresh1 M) (k : Pk) (label : Nat) : Fresh1 (putM 1 M k label) := fun t ht => by
  rcases putM_mem ht with rfl | ht
  · exact ⟨rfl, rfl⟩
  · exact h t ht
/-- told behind it -/
def Fresh2 (fam : Int) (M : List TdC) : Prop := ∀ t ∈ M, (t.stale = true → t.k.fam = fam ∧ t.c.med = 1) ∧ (t.stale = false → t.k.fam = fam → t.c.med = 2)
theorem Fresh2.mark {M : List TdC} (h : Fresh1 M) (fam : Int) : Fresh2 fam (markC fam M) := fun t ht => by
  unfold markC at ht
  obtain ⟨s, hs, he⟩ := List.mem_map.1 ht
  obtain ⟨h1, h2⟩ := h s hs
  by_cases hf : s.k.fam = fam
  · rw [if_pos hf] at he
    subst he
    exact ⟨fun _ => ⟨hf, h2⟩, fun e => Bool.noConfusion e⟩
  · rw [if_neg hf] at he
    subst he
    exact ⟨fun e => absurd (h1.symm.trans e) (by decide), fun _ e => absurd e hf⟩
theorem Fresh2.put {fam : Int} {M : List TdC} (h : Fresh2 fam M) (k : Pk) (label : Nat) : Fresh2 fam (putM 2 M k label) := fun t ht => by
  rcases putM_mem ht with rfl | ht
  · exact ⟨fun e => Bool.noConfusion e, fun _ _ => rfl⟩
  · exact h t ht
theorem markC_len (fam : Int) (M : List TdC) : (markC fam M).length = M.length := List.length_map ..
theorem key_one {M : List TdC} (hk : KeysC M) {t s : TdC} (ht : t ∈ M) (hs : s ∈ M) (e : t.k = s.k) : t = s := by
  have h1 := getC_mem hk ht
  have h2 := getC_mem hk hs
  rw [e, h2] at h1
  exact (Option.some.inj h1).symm
/-- what a sweep takes -/
theorem swept_iff {M : List TdC} (hk : KeysC M) {Q : TdC → Bool} {O : List Pk} (hO : O.Perm ((M.filter Q).map (·.k))) {t : TdC} (ht : t ∈ M) : t.k ∈ O ↔ Q t = true := by
  rw [hO.mem_iff, List.mem_map]
  refine Iff.intro (fun ⟨s, hs, he⟩ => ?_) (fun h => ⟨t, List.mem_filter.2 ⟨ht, h⟩, rfl⟩)
  obtain ⟨h1, h2⟩ := List.mem_filter.1 hs
  rw [key_one hk ht h1 he.symm]
  exact h2
theorem left_eq {M : List TdC} (hk : KeysC M) {Q : TdC → Bool} {O : List Pk} (hO : O.Perm ((M.filter Q).map (·.k))) : delL O M = M.filter fun t => !Q t := by
  unfold delL
  refine List.filter_congr fun t ht => ?_
  have h := swept_iff hk hO ht
  by_cases hq : Q t = true
  · rw [hq, decide_eq_true (h.2 hq)]
  · have hq2 : Q t = false := by simpa using hq
    rw [decide_eq_false (fun e => hq (h.1 e)), hq2]
theorem filter_part {α : Type} (p q : α → Bool) (l : List α) : (l.filter fun x => p x && q x).length + ((l.filter fun x => !q x).filter p).length = (l.filter p).length := by
  rw [List.filter_filter]
  induction l with
  | nil => rfl
  | cons x r ih =>
    rw [List.filter_cons, List.filter_cons, List.filter_cons]
    cases hp : p x <;> cases hq : q x <;> simp only [Bool.and_true, Bool.and_false, Bool.not_true, Bool.not_false, Bool.false_eq_true, if_true, if_false, List.length_cons] <;> omega
/-- what a sweep leaves -/
structure Left (fam : Int) (M M5 : List TdC) (O : List Pk) : Prop where
  other : ∀ f, f ≠ fam → cntC M5 f = cntC M f
  same : cntC M5 fam + O.length = cntC M fam
  stale : ∀ t ∈ M5, t.stale = false
  med : ∀ t ∈ M5, t.k.fam = fam → t.c.med = 2
  none : M5.filter (fun t => decide (t.k.fam = fam) && t.stale) = []
theorem left_of {fam : Int} {M : List TdC} (hk : KeysC M) (h2 : Fresh2 fam M) {O : List Pk} (hO : O.Perm ((M.filter fun t => decide (t.k.fam = fam) && t.stale).map (·.k))) : Left fam M (delL O M) O := by
  have e := left_eq hk hO
  have hst : ∀ t ∈ delL O M, t.stale = false := fun t ht => by
    rw [e] at ht
    obtain ⟨h3, h4⟩ := List.mem_filter.1 ht
    cases hs : t.stale with
    | false => rfl
    | true =>
      have := ((h2 t h3).1 hs).1
      rw [hs, decide_eq_true this] at h4
      cases h4
  have hmem : ∀ t ∈ delL O M, t ∈ M := fun t ht => (List.mem_filter.1 ht).1
  refine ⟨fun f hf => ?_, ?_, hst, fun t ht hf => (h2 t (hmem t ht)).2 (hst t ht) hf, ?_⟩
  · rw [e]
    unfold cntC
    rw [List.filter_filter]
    congr 1
    refine List.filter_congr fun t ht => ?_
    by_cases h : t.k.fam = f
    · have h3 : ¬ t.k.fam = fam := fun e2 => hf (h.symm.trans e2)
      simp [h, hf]
    · simp [h]
  · rw [hO.length_eq, List.length_map, e]
    have h := filter_part (fun t : TdC => decide (t.k.fam = fam)) (fun t => t.stale) M
    have h3 : (M.filter fun t => !(decide (t.k.fam = fam) && t.stale)).filter (fun t => decide (t.k.fam = fam)) = (M.filter fun t => !t.stale).filter (fun t => decide (t.k.fam = fam)) := by
      rw [List.filter_filter, List.filter_filter]
      refine List.filter_congr fun t ht => ?_
      by_cases h : t.k.fam = fam <;> simp [h]
    unfold cntC
    rw [h3]
    omega
  · refine List.filter_eq_nil_iff.2 fun t ht => ?_
    rw [hst t ht]
    simp
theorem cnt_perm {M N : List TdC} (h : M.Perm N) (f : Int) : cntC M f = cntC N f := (h.filter _).length_eq
theorem get_perm {M N : List TdC} (h : M.Perm N) (hk : KeysC N) (k : Pk) : getC M k = getC N k := by
  have hk2 : KeysC M := (List.Perm.pairwise_iff (R := fun p q : TdC => p.k ≠ q.k) (fun hab e => hab e.symm) h).2 hk
  cases hm : getC M k with
  | none =>
    cases hn : getC N k with
    | none => rfl
    | some t =>
      obtain ⟨h1, h2⟩ := getC_some hn
      exact absurd h2 (getC_none hm t (h.mem_iff.2 h1))
  | some t =>
    obtain ⟨h1, h2⟩ := getC_some hm
    rw [← h2]
    exact (getC_mem hk (h.mem_iff.1 h1)).symm
theorem del_none {O : List Pk} {M : List TdC} {k : Pk} (hk : k ∈ O) : getC (delL O M) k = none := by
  cases hg : getC (delL O M) k with
  | none => rfl
  | some t =>
    obtain ⟨h1, h2⟩ := getC_some hg
    have h3 := (List.mem_filter.1 h1).2
    rw [h2, decide_eq_true hk] at h3
    cases h3
/-- neighbours in order: their prefixes rise, or they are alike and the ids rise -/
theorem ord_next {x y : Pk} (h : cfP x y < 0) : pcF x y ≤ 0 ∧ ((x.fam = y.fam ∧ x.rd = y.rd ∧ x.addr = y.addr ∧ x.len = y.len) → x.id < y.id) := by
  unfold cfP roF at h
  split at h
  · rename_i h0
    rw [ci_neg] at h
    exact ⟨by omega, fun _ => by omega⟩
  · rename_i h0
    refine ⟨by omega, fun he => ?_⟩
    exfalso
    apply h0
    obtain ⟨h1, h2, h3, h4⟩ := he
    unfold pcF
    rw [h1, h2, h3, h4]
    have e1 := wo_pc.refl y
    have e2 := wo_pc.anti y y
    have e : pcF y y = 0 := by omega
    unfold pcF at e
    exact e
end Go.Proofs.Ytldpcliahfiloaa
