/-
  Several texts in one.
-/
import Derived.Test.YtldpcliahfiloaaGreatPW38
set_option linter.unusedVariables false
set_option linter.unusedSimpArgs false
namespace Go.Proofs.YtldpcliahfiloaaGreat
open Go.RowKit Go.MapKept Go.Shelf
open Go.Lib hiding intOf
open Go.Sort hiding Below

/-- the document's list: in order -/
def Srt (C : List TdC) : Prop := C.Pairwise fun p q => cfP p.k q.k < 0
/-- one rib, twice -/
def Rel (M C : List TdC) : Prop := C.Perm M ∧ Srt C
/-- where a place is, or would be; is it there? -/
def placeF : List TdC → Pk → Nat × Bool
  | [], _ => (0, false)
  | x :: r, k => if cfP x.k k = 0 then (0, true) else if 0 < cfP x.k k then (0, false) else ((placeF r k).1 + 1, (placeF r k).2)
theorem cf_eq {x y : Pk} (h : cfP x y = 0) : x = y := by
  rcases cf_total x y with e | e | e
  · omega
  · exact e
  · have := (wo_cf.anti x y).2 e
    omega
theorem cf_refl (x : Pk) : cfP x x = 0 := by
  have h1 := wo_cf.refl x
  have h2 := wo_cf.anti x x
  omega
theorem placeF_some : ∀ (C : List TdC) (k : Pk), Srt C → (placeF C k).2 = true → ∃ P t R, C = P ++ t :: R ∧ P.length = (placeF C k).1 ∧ t.k = k ∧ (∀ s ∈ P, cfP s.k k < 0) ∧ (∀ s ∈ R, cfP k s.k < 0)
  | [], k, _, h => by cases h
  | x :: r, k, hs, h => by
    obtain ⟨h1, h2⟩ := List.pairwise_cons.1 hs
    unfold placeF at h ⊢
    by_cases e : cfP x.k k = 0
    · rw [if_pos e] at h ⊢
      have e2 := cf_eq e
      exact ⟨[], x, r, rfl, rfl, e2, (fun s hs => by cases hs), fun s hs => by rw [← e2]; exact h1 s hs⟩
    · rw [if_neg e] at h ⊢
      by_cases e3 : 0 < cfP x.k k
      · rw [if_pos e3] at h
        cases h
      · rw [if_neg e3] at h ⊢
        obtain ⟨P, t, R, a1, a2, a3, a4, a5⟩ := placeF_some r k h2 h
        refine ⟨x :: P, t, R, by rw [a1]; rfl, by rw [List.length_cons, a2], a3, fun s hs => ?_, a5⟩
        rcases List.mem_cons.1 hs with rfl | hs
        · omega
        · exact a4 s hs
theorem placeF_none : ∀ (C : List TdC) (k : Pk), Srt C → (placeF C k).2 = false → ∃ P R, C = P ++ R ∧ P.length = (placeF C k).1 ∧ (∀ s ∈ P, cfP s.k k < 0) ∧ (∀ s ∈ R, cfP k s.k < 0)
  | [], k, _, h => ⟨[], [], rfl, rfl, (fun s hs => by cases hs), (fun s hs => by cases hs)⟩
  | x :: r, k, hs, h => by
    obtain ⟨h1, h2⟩ := List.pairwise_cons.1 hs
    unfold placeF at h ⊢
    by_cases e : cfP x.k k = 0
    · rw [if_pos e] at h
      cases h
    · rw [if_neg e] at h ⊢
      by_cases e3 : 0 < cfP x.k k
      · rw [if_pos e3]
        have e4 := (wo_cf.anti x.k k).1 e3
        refine ⟨[], x :: r, rfl, rfl, (fun s hs => by cases hs), fun s hs => ?_⟩
        rcases List.mem_cons.1 hs with rfl | hs
        · exact e4
        · have h5 := h1 s hs
          have t1 := wo_cf.trans k x.k s.k (by omega) (by omega)
          by_cases e6 : cfP k s.k = 0
          · have := cf_eq e6
            rw [← this] at h5
            omega
          · omega
      · rw [if_neg e3] at h ⊢
        obtain ⟨P, R, a1, a2, a4, a5⟩ := placeF_none r k h2 h
        refine ⟨x :: P, R, by rw [a1]; rfl, by rw [List.length_cons, a2], fun s hs => ?_, a5⟩
        rcases List.mem_cons.1 hs with rfl | hs
        · omega
        · exact a4 s hs
theorem placeF_le (C : List TdC) (k : Pk) (hs : Srt C) : (placeF C k).1 ≤ C.length ∧ ((placeF C k).2 = true → (placeF C k).1 < C.length) := by
  cases h : (placeF C k).2 with
  | true =>
    obtain ⟨P, t, R, a1, a2, _⟩ := placeF_some C k hs h
    have e : C.length = P.length + (R.length + 1) := by rw [a1, List.length_append, List.length_cons]
    exact ⟨by omega, fun _ => by omega⟩
  | false =>
    obtain ⟨P, R, a1, a2, _⟩ := placeF_none C k hs h
    have e : C.length = P.length + R.length := by rw [a1, List.length_append]
    exact ⟨by omega, fun h => by cases h⟩
theorem Srt.keys {C : List TdC} (h : Srt C) : KeysC C := h.imp fun h e => by rw [e, cf_refl] at h; omega
theorem Srt.nodup {C : List TdC} (h : Srt C) : C.Nodup := h.imp fun h e => by rw [e, cf_refl] at h; omega
theorem cf_lt_trans {x y z : Pk} (h1 : cfP x y < 0) (h2 : cfP y z < 0) : cfP x z < 0 := by
  have t1 := wo_cf.trans x y z (by omega) (by omega)
  by_cases e : cfP x z = 0
  · have e2 := cf_eq e
    rw [← e2] at h2
    have := wo_cf.anti x y
    have := wo_cf.anti y x
    omega
  · omega
theorem srt_mid {P R : List TdC} {t : TdC} (hP : Srt P) (hR : Srt R) (h1 : ∀ s ∈ P, cfP s.k t.k < 0) (h2 : ∀ s ∈ R, cfP t.k s.k < 0) : Srt (P ++ t :: R) := by
  refine List.pairwise_append.2 ⟨hP, List.pairwise_cons.2 ⟨h2, hR⟩, fun a ha b hb => ?_⟩
  rcases List.mem_cons.1 hb with rfl | hb
  · exact h1 a ha
  · exact cf_lt_trans (h1 a ha) (h2 b hb)
theorem srt_app {P R : List TdC} {k : Pk} (hP : Srt P) (hR : Srt R) (h1 : ∀ s ∈ P, cfP s.k k < 0) (h2 : ∀ s ∈ R, cfP k s.k < 0) : Srt (P ++ R) :=
  List.pairwise_append.2 ⟨hP, hR, fun a ha b hb => cf_lt_trans (h1 a ha) (h2 b hb)⟩
theorem setC_iff {M : List TdC} (hk : KeysC M) {t y : TdC} : y ∈ setC M t ↔ y = t ∨ (y ∈ M ∧ y.k ≠ t.k) := by
  refine Iff.intro (fun h => ?_) (fun h => ?_)
  · rcases setC_mem h with h | ⟨h1, h2⟩
    · exact .inl h
    · exact .inr ⟨h1, h2 hk⟩
  · have hg := setC_get M t
    rcases h with rfl | ⟨h1, h2⟩
    · have := hg y.k
      rw [if_pos rfl] at this
      exact (getC_some this).1
    · have := hg y.k
      rw [if_neg (fun e => h2 e.symm), getC_mem hk h1] at this
      exact (getC_some this).1
theorem nodup_keys {M : List TdC} (h : KeysC M) : M.Nodup := h.imp fun h e => h (by rw [e])
theorem Rel.keys {M C : List TdC} (h : Rel M C) : KeysC M := (List.Perm.pairwise_iff (R := fun p q : TdC => p.k ≠ q.k) (fun hab e => hab e.symm) h.1).1 h.2.keys
theorem Rel.len {M C : List TdC} (h : Rel M C) : C.length = M.length := h.1.length_eq
theorem rel_nil : Rel [] [] := ⟨List.Perm.refl _, List.Pairwise.nil⟩
theorem parts {P : List TdC} {k : Pk} (h : ∀ s ∈ P, cfP s.k k < 0) : ∀ s ∈ P, s.k ≠ k := fun s hs e => by
  have := h s hs
  rw [e, cf_refl] at this
  omega
theorem parts' {P : List TdC} {k : Pk} (h : ∀ s ∈ P, cfP k s.k < 0) : ∀ s ∈ P, s.k ≠ k := fun s hs e => by
  have := h s hs
  rw [e, cf_refl] at this
  omega
/-- is it there, as the map says? -/
theorem Rel.get {M C : List TdC} (h : Rel M C) (k : Pk) : ((placeF C k).2 = true → ∃ t, C[(placeF C k).1]? = some t ∧ t.k = k ∧ getC M k = some t) ∧ ((placeF C k).2 = false → getC M k = none) := by
  refine ⟨fun e => ?_, fun e => ?_⟩
  · obtain ⟨P, t, R, a1, a2, a3, a4, a5⟩ := placeF_some C k h.2 e
    refine ⟨t, ?_, a3, ?_⟩
    · rw [a1, ← a1, ← a2, a1, List.getElem?_append_right (Nat.le_refl _), Nat.sub_self]
      rfl
    · rw [← a3]
      exact getC_mem h.keys (h.1.mem_iff.1 (by rw [a1]; exact List.mem_append.2 (.inr (List.mem_cons_self ..))))
  · obtain ⟨P, R, a1, a2, a4, a5⟩ := placeF_none C k h.2 e
    cases hg : getC M k with
    | none => rfl
    | some t =>
      obtain ⟨b1, b2⟩ := getC_some hg
      have hm := h.1.mem_iff.2 b1
      rw [a1] at hm
      rcases List.mem_append.1 hm with hm | hm
      · exact absurd b2 (parts a4 t hm)
      · exact absurd b2 (parts' a5 t hm)
/-- put -/
theorem Rel.put {M C : List TdC} (h : Rel M C) (x : TdC) : Rel (setC M x) (C.take (placeF C x.k).1 ++ x :: C.drop (if (placeF C x.k).2 = true then (placeF C x.k).1 + 1 else (placeF C x.k).1)) := by
  have hks := setC_keys h.keys x
  cases e : (placeF C x.k).2 with
  | true =>
    obtain ⟨P, t, R, a1, a2, a3, a4, a5⟩ := placeF_some C x.k h.2 e
    rw [if_pos rfl, ← a2]
    have hs := h.2
    rw [a1] at hs ⊢
    have hs2 := List.pairwise_append.1 hs
    have e1 : (P ++ t :: R).take P.length = P := by simp
    have e2 : (P ++ t :: R).drop (P.length + 1) = R := by
      rw [show (P ++ t :: R) = (P ++ [t]) ++ R by simp, show P.length + 1 = (P ++ [t]).length by simp, List.drop_left]
    rw [e1, e2]
    have hS : Srt (P ++ x :: R) := srt_mid hs2.1 (List.pairwise_cons.1 hs2.2.1).2 a4 a5
    refine ⟨(List.perm_ext_iff_of_nodup hS.nodup (nodup_keys hks)).2 fun y => ?_, hS⟩
    rw [setC_iff h.keys, List.mem_append, List.mem_cons, ← h.1.mem_iff, a1, List.mem_append, List.mem_cons]
    refine Iff.intro (fun hy => ?_) (fun hy => ?_)
    · rcases hy with hy | hy | hy
      · exact .inr ⟨.inl hy, parts a4 y hy⟩
      · exact .inl hy
      · exact .inr ⟨.inr (.inr hy), parts' a5 y hy⟩
    · rcases hy with hy | ⟨hy | hy | hy, hne⟩
      · exact .inr (.inl hy)
      · exact .inl hy
      · exact absurd (by rw [hy, a3]) hne
      · exact .inr (.inr hy)
  | false =>
    obtain ⟨P, R, a1, a2, a4, a5⟩ := placeF_none C x.k h.2 e
    rw [if_neg (by decide), ← a2]
    have hs := h.2
    rw [a1] at hs ⊢
    have hs2 := List.pairwise_append.1 hs
    have e1 : (P ++ R).take P.length = P := by simp
    have e2 : (P ++ R).drop P.length = R := by simp
    rw [e1, e2]
    have hS : Srt (P ++ x :: R) := srt_mid hs2.1 hs2.2.1 a4 a5
    refine ⟨(List.perm_ext_iff_of_nodup hS.nodup (nodup_keys hks)).2 fun y => ?_, hS⟩
    rw [setC_iff h.keys, List.mem_append, List.mem_cons, ← h.1.mem_iff, a1, List.mem_append]
    refine Iff.intro (fun hy => ?_) (fun hy => ?_)
    · rcases hy with hy | hy | hy
      · exact .inr ⟨.inl hy, parts a4 y hy⟩
      · exact .inl hy
      · exact .inr ⟨.inr hy, parts' a5 y hy⟩
    · rcases hy with hy | ⟨hy | hy, hne⟩
      · exact .inr (.inl hy)
      · exact .inl hy
      · exact .inr (.inr hy)
/-- gone -/
theorem Rel.gone {M C : List TdC} (h : Rel M C) (k : Pk) (e : (placeF C k).2 = true) : Rel (delC M k) (C.take (placeF C k).1 ++ C.drop ((placeF C k).1 + 1)) := by
  obtain ⟨P, t, R, a1, a2, a3, a4, a5⟩ := placeF_some C k h.2 e
  rw [← a2]
  have hs := h.2
  rw [a1] at hs ⊢
  have hs2 := List.pairwise_append.1 hs
  have e1 : (P ++ t :: R).take P.length = P := by simp
  have e2 : (P ++ t :: R).drop (P.length + 1) = R := by
    rw [show (P ++ t :: R) = (P ++ [t]) ++ R by simp, show P.length + 1 = (P ++ [t]).length by simp, List.drop_left]
  rw [e1, e2]
  have hS : Srt (P ++ R) := srt_app hs2.1 (List.pairwise_cons.1 hs2.2.1).2 a4 a5
  refine ⟨(List.perm_ext_iff_of_nodup hS.nodup (nodup_keys (delC_keys h.keys k))).2 fun y => ?_, hS⟩
  unfold delC
  rw [List.mem_append, List.mem_filter, ← h.1.mem_iff, a1, List.mem_append, List.mem_cons]
  refine Iff.intro (fun hy => ?_) (fun hy => ?_)
  · rcases hy with hy | hy
    · exact ⟨.inl hy, by simp [parts a4 y hy]⟩
    · exact ⟨.inr (.inr hy), by simp [parts' a5 y hy]⟩
  · obtain ⟨hy | hy | hy, hne⟩ := hy
    · exact .inl hy
    · rw [hy] at hne
      simp [a3] at hne
    · exact .inr hy
theorem Rel.gone' {M C : List TdC} (h : Rel M C) (k : Pk) (e : (placeF C k).2 = false) : delC M k = M := delC_none ((h.get k).2 e)
/-- marked -/
theorem Rel.mark {M C : List TdC} (h : Rel M C) (fam : Int) : Rel (markC fam M) (markC fam C) := by
  refine ⟨h.1.map _, ?_⟩
  unfold markC Srt
  rw [List.pairwise_map]
  have e : ∀ t : TdC, (if t.k.fam = fam then ({ t with stale := true } : TdC) else t).k = t.k := fun t => by split <;> rfl
  refine h.2.imp fun {a b} hab => ?_
  rw [e, e]
  exact hab
/-- some taken away -/
theorem Rel.filter {M C : List TdC} (h : Rel M C) (p : TdC → Bool) : Rel (M.filter p) (C.filter p) := ⟨h.1.filter p, h.2.filter p⟩
/-- places in order, of a filtered list -/
theorem ord_keys {M C : List TdC} (h : Rel M C) (Q : TdC → Bool) {O : List Pk} (ho : OrdP O) (hp : O.Perm ((M.filter Q).map (·.k))) : O = (C.filter Q).map (·.k) := by
  have h2 := h.filter Q
  refine List.Perm.eq_of_pairwise (le := fun p q : Pk => cfP p q < 0) (fun a b _ _ h1 h2 => by have := wo_cf.anti a b; omega) ho ?_ (hp.trans (h2.1.symm.map _))
  rw [List.pairwise_map]
  exact h2.2
/-- a list of contents whose places are those of a filtered list is that list -/
theorem by_keys {M C : List TdC} (h : Rel M C) (Q : TdC → Bool) {X : List TdC} (hx : ∀ t ∈ X, t ∈ M) (he : X.map (·.k) = (C.filter Q).map (·.k)) : X = C.filter Q := by
  refine List.ext_getElem? fun i => ?_
  have hi : (X.map (·.k))[i]? = ((C.filter Q).map (·.k))[i]? := by rw [he]
  rw [List.getElem?_map, List.getElem?_map] at hi
  cases ha : X[i]? with
  | none =>
    rw [ha] at hi
    cases hb : (C.filter Q)[i]? with
    | none => rfl
    | some u => rw [hb] at hi; cases hi
  | some t =>
    rw [ha] at hi
    cases hb : (C.filter Q)[i]? with
    | none => rw [hb] at hi; cases hi
    | some u =>
      rw [hb] at hi
      have e : t.k = u.k := Option.some.inj hi
      have hu : u ∈ M := h.1.mem_iff.1 (List.mem_filter.1 (List.mem_of_getElem? hb)).1
      rw [key_one h.keys (hx t (List.mem_of_getElem? ha)) hu e]
end Go.Proofs.YtldpcliahfiloaaGreat
