/-
  Several texts in one.
-/
import Derived.Test.YtldpcliahfiloaaGreatPW37
set_option linter.unusedVariables false
set_option linter.unusedSimpArgs false
namespace Go.Proofs.YtldpcliahfiloaaGreat
open Go.RowKit Go.MapKept Go.Shelf
open Go.Lib hiding intOf
open Go.Sort hiding Below

/-- a put that no bound stops -/
def putM (med : Nat) (M : List TdC) (k : Pk) (label : Nat) : List TdC := if nlMay (nlk k label) then setC M ⟨k, label, medC med, false⟩ else M
theorem putM_mem {med : Nat} {M : List TdC} {k : Pk} {label : Nat} {t : TdC} (h : t ∈ putM med M k label) : t = ⟨k, label, medC med, false⟩ ∨ t ∈ M := by
  unfold putM at h
  split at h
  · rcases setC_mem h with h | h
    · exact .inl h
    · exact .inr h.1
  · exact .inr h
/-- told ahead of the mark -/
def Fresh1 (M : List TdC) : Prop := ∀ t ∈ M, t.stale = false ∧ t.c.med = 1
theorem Fresh1.put {M : List TdC} (h : Fresh1 M) (k : Pk) (label : Nat) : Fresh1 (putM 1 M k label) := fun t ht => by
  rcases putM_mem ht with rfl | ht
  · exact ⟨rfl, rfl⟩
  · exact h t ht
/-- told behind it -/
def Fresh2 (fam : Int) (M : List TdC) : Prop := ∀ t ∈ M, (t.stale = true → t.k.fam = fam ∧ t.c.med = 1) ∧ (t.stale = false → t.k.fam = fam → t.c.med = 2)
theorem Fresh2.mark {M : List TdC} (h : Fresh1 M) (fam : Int) : Fresh2 fam (markC fam M) := fun t ht => by
  unfold markC at ht
  obtain ⟨s, hs, he⟩ := List.mem_map.1 ht
  obtain ⟨h1, h2⟩ := h s hs
  by_cases hf : s.k.fam = fam
  · rw [if_pos hf] at he
    subst he
    exact ⟨fun _ => ⟨hf, h2⟩, fun e => Bool.noConfusion e⟩
  · rw [if_neg hf] at he
    subst he
    exact ⟨fun e => absurd (h1.symm.trans e) (by decide), fun _ e => absurd e hf⟩
theorem Fresh2.put {fam : Int} {M : List TdC} (h : Fresh2 fam M) (k : Pk) (label : Nat) : Fresh2 fam (putM 2 M k label) := fun t ht => by
  rcases putM_mem ht with rfl | ht
  · exact ⟨fun e => Bool.noConfusion e, fun _ _ => rfl⟩
  · exact h t ht
theorem markC_len (fam : Int) (M : List TdC) : (markC fam M).length = M.length := List.length_map ..
theorem key_one {M : List TdC} (hk : KeysC M) {t s : TdC} (ht : t ∈ M) (hs : s ∈ M) (e : t.k = s.k) : t = s := by
  have h1 := getC_mem hk ht
  have h2 := getC_mem hk hs
  rw [e, h2] at h1
  exact (Option.some.inj h1).symm
/-- what a sweep takes -/
theorem swept_iff {M : List TdC} (hk : KeysC M) {Q : TdC → Bool} {O : List Pk} (hO : O.Perm ((M.filter Q).map (·.k))) {t : TdC} (ht : t ∈ M) : t.k ∈ O ↔ Q t = true := by
  rw [hO.mem_iff, List.mem_map]
  refine Iff.intro (fun ⟨s, hs, he⟩ => ?_) (fun h => ⟨t, List.mem_filter.2 ⟨ht, h⟩, rfl⟩)
  obtain ⟨h1, h2⟩ := List.mem_filter.1 hs
  rw [key_one hk ht h1 he.symm]
  exact h2
theorem left_eq {M : List TdC} (hk : KeysC M) {Q : TdC → Bool} {O : List Pk} (hO : O.Perm ((M.filter Q).map (·.k))) : delL O M = M.filter fun t => !Q t := by
  unfold delL
  refine List.filter_congr fun t ht => ?_
  have h := swept_iff hk hO ht
  by_cases hq : Q t = true
  · rw [hq, decide_eq_true (h.2 hq)]
  · have hq2 : Q t = false := by simpa using hq
    rw [decide_eq_false (fun e => hq (h.1 e)), hq2]
/-- what a sweep leaves -/
structure Left (fam : Int) (M M5 : List TdC) (O : List Pk) : Prop where
  other : ∀ f, f ≠ fam → cntC M5 f = cntC M f
  same : cntC M5 fam + O.length = cntC M fam
  stale : ∀ t ∈ M5, t.stale = false
  med : ∀ t ∈ M5, t.k.fam = fam → t.c.med = 2
  none : M5.filter (fun t => decide (t.k.fam = fam) && t.stale) = []
theorem cnt_perm {M N : List TdC} (h : M.Perm N) (f : Int) : cntC M f = cntC N f := (h.filter _).length_eq
end Go.Proofs.YtldpcliahfiloaaGreat
