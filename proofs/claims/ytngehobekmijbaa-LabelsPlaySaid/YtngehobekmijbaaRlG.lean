/-
  Labels: the program's labels and the reference's list side by side: what each step answers, as a relation on the list. Conditions: sizes.
-/
import Derived.Test.YtngehobekmijbaaRlF
import Derived.Test.YtngehobekmijbaaLabH
set_option linter.unusedVariables false
set_option linter.unusedSimpArgs false
namespace Go.Proofs.Ytngehobekmijbaa
open Go.RowKit Go.MapKept

def TkRel (M : List (LK × Nat)) (low high : Nat) (k : LK) (M' : List (LK × Nat)) (n c : Nat) : Prop :=
  (kmay k = false ∧ M' = M ∧ n = 0 ∧ c = 2) ∨ (kmay k = true ∧ (k, n) ∈ M ∧ M' = M ∧ c = 0) ∨
  (kmay k = true ∧ (∀ p ∈ M, p.1 ≠ k) ∧ (low ≤ n ∧ n ≤ high ∧ (∀ q, low ≤ q → q < n → ∃ p ∈ M, p.2 = q) ∧ (∀ p ∈ M, p.2 ≠ n)) ∧ M' = M ++ [(k, n)] ∧ c = 0) ∨
  (kmay k = true ∧ (∀ p ∈ M, p.1 ≠ k) ∧ (∀ q, low ≤ q → q ≤ high → ∃ p ∈ M, p.2 = q) ∧ M' = M ∧ n = 0 ∧ c = 7)
def OfRel (M : List (LK × Nat)) (k : LK) (n : Nat) (b : Bool) : Prop := ((k, n) ∈ M ∧ b = true) ∨ ((∀ p ∈ M, p.1 ≠ k) ∧ n = 0 ∧ b = false)
def KyRel (M : List (LK × Nat)) (n : Nat) (k : LK) (b : Bool) : Prop := ((k, n) ∈ M ∧ b = true) ∨ ((∀ p ∈ M, p.2 ≠ n) ∧ k = noKey ∧ b = false)

theorem key_uniq {M : List (LK × Nat)} (h : M.Pairwise (fun p q => p.1 ≠ q.1)) {k : LK} {a b : Nat} (ha : (k, a) ∈ M) (hb : (k, b) ∈ M) : a = b := by
  obtain ⟨i, hi⟩ := List.getElem?_of_mem ha
  obtain ⟨j, hj⟩ := List.getElem?_of_mem hb
  obtain ⟨i1, i2⟩ := List.getElem?_eq_some_iff.1 hi
  obtain ⟨j1, j2⟩ := List.getElem?_eq_some_iff.1 hj
  rcases Nat.lt_trichotomy i j with hl | he | hg
  · have := List.pairwise_iff_getElem.1 h i j i1 j1 hl
    rw [i2, j2] at this
    exact absurd rfl this
  · subst he
    rw [i2] at j2
    injection j2
  · have := List.pairwise_iff_getElem.1 h j i j1 i1 hg
    rw [i2, j2] at this
    exact absurd rfl this
theorem lab_uniq {M : List (LK × Nat)} (h : M.Pairwise (fun p q => p.2 ≠ q.2)) {n : Nat} {a b : LK} (ha : (a, n) ∈ M) (hb : (b, n) ∈ M) : a = b := by
  obtain ⟨i, hi⟩ := List.getElem?_of_mem ha
  obtain ⟨j, hj⟩ := List.getElem?_of_mem hb
  obtain ⟨i1, i2⟩ := List.getElem?_eq_some_iff.1 hi
  obtain ⟨j1, j2⟩ := List.getElem?_eq_some_iff.1 hj
  rcases Nat.lt_trichotomy i j with hl | he | hg
  · have := List.pairwise_iff_getElem.1 h i j i1 j1 hl
    rw [i2, j2] at this
    exact absurd rfl this
  · subst he
    rw [i2] at j2
    injection j2
  · have := List.pairwise_iff_getElem.1 h j i j1 i1 hg
    rw [i2, j2] at this
    exact absurd rfl this

theorem TkRel.uniq {M M1 M2 : List (LK × Nat)} {low high n1 n2 c1 c2 : Nat} {k : LK} (hp : M.Pairwise (fun p q => p.1 ≠ q.1)) (h1 : TkRel M low high k M1 n1 c1) (h2 : TkRel M low high k M2 n2 c2) : M1 = M2 ∧ n1 = n2 ∧ c1 = c2 := by
  rcases h1 with ⟨a1, rfl, rfl, rfl⟩ | ⟨a1, b1, rfl, rfl⟩ | ⟨a1, b1, ⟨d1, d2, d3, d4⟩, rfl, rfl⟩ | ⟨a1, b1, d1, rfl, rfl, rfl⟩ <;>
  rcases h2 with ⟨a2, rfl, rfl, rfl⟩ | ⟨a2, b2, rfl, rfl⟩ | ⟨a2, b2, ⟨e1, e2, e3, e4⟩, rfl, rfl⟩ | ⟨a2, b2, e1, rfl, rfl, rfl⟩
  any_goals (exact ⟨rfl, rfl, rfl⟩)
  any_goals (rw [a1] at a2; cases a2; done)
  · exact ⟨rfl, key_uniq hp b1 b2, rfl⟩
  · exact absurd rfl (b2 _ b1)
  · exact absurd rfl (b2 _ b1)
  · exact absurd rfl (b1 _ b2)
  · have : n1 = n2 := by
      rcases Nat.lt_trichotomy n1 n2 with hl | he | hg
      · obtain ⟨p, hm, e⟩ := e3 n1 d1 hl
        exact absurd e (d4 p hm)
      · exact he
      · obtain ⟨p, hm, e⟩ := d3 n2 e1 hg
        exact absurd e (e4 p hm)
    subst this
    exact ⟨rfl, rfl, rfl⟩
  · obtain ⟨p, hm, e⟩ := e1 n1 d1 d2
    exact absurd e (d4 p hm)
  · exact absurd rfl (b1 _ b2)
  · obtain ⟨p, hm, e⟩ := d1 n2 e1 e2
    exact absurd e (e4 p hm)
theorem OfRel.uniq {M : List (LK × Nat)} {k : LK} {n1 n2 : Nat} {b1 b2 : Bool} (hp : M.Pairwise (fun p q => p.1 ≠ q.1)) (h1 : OfRel M k n1 b1) (h2 : OfRel M k n2 b2) : n1 = n2 ∧ b1 = b2 := by
  rcases h1 with ⟨a1, rfl⟩ | ⟨a1, rfl, rfl⟩ <;> rcases h2 with ⟨a2, rfl⟩ | ⟨a2, rfl, rfl⟩
  · exact ⟨key_uniq hp a1 a2, rfl⟩
  · exact absurd rfl (a2 _ a1)
  · exact absurd rfl (a1 _ a2)
  · exact ⟨rfl, rfl⟩
theorem KyRel.uniq {M : List (LK × Nat)} {n : Nat} {k1 k2 : LK} {b1 b2 : Bool} (hp : M.Pairwise (fun p q => p.2 ≠ q.2)) (h1 : KyRel M n k1 b1) (h2 : KyRel M n k2 b2) : k1 = k2 ∧ b1 = b2 := by
  rcases h1 with ⟨a1, rfl⟩ | ⟨a1, rfl, rfl⟩ <;> rcases h2 with ⟨a2, rfl⟩ | ⟨a2, rfl, rfl⟩
  · exact ⟨lab_uniq hp a1 a2, rfl⟩
  · exact absurd rfl (a2 _ a1)
  · exact absurd rfl (a1 _ a2)
  · exact ⟨rfl, rfl⟩
theorem gv_perm {S M : List (LK × Nat)} (hp : S.Perm M) (hd : S.Pairwise (fun p q => p.1 ≠ q.1)) {j n : Nat} {k : LK} (hj : S[j]? = some (k, n)) : (S.eraseIdx j).Perm (gvM M k) ∧ (gvM M k).length < M.length := by
  have h0 := perm_eraseIdx S j _ hj
  have h1 : ∀ p ∈ S.eraseIdx j, p.1 ≠ k := erase_no hd hj
  have h2 : gvM (S.eraseIdx j) k = S.eraseIdx j := by
    unfold gvM
    rw [List.filter_eq_self]
    intro p hm
    simpa using h1 p hm
  have h3 : gvM ((k, n) :: S.eraseIdx j) k = S.eraseIdx j := by
    have : gvM ((k, n) :: S.eraseIdx j) k = gvM (S.eraseIdx j) k := by simp [gvM]
    rw [this, h2]
  have h4 : (gvM ((k, n) :: S.eraseIdx j) k).Perm (gvM M k) := by
    unfold gvM
    exact (h0.trans hp).filter _
  rw [h3] at h4
  refine ⟨h4, ?_⟩
  have := h4.length_eq
  have h5 := (h0.trans hp).length_eq
  simp only [List.length_cons] at h5
  omega
theorem gv_none {M : List (LK × Nat)} {k : LK} (h : ∀ p ∈ M, p.1 ≠ k) : gvM M k = M := by
  unfold gvM
  rw [List.filter_eq_self]
  intro p hm
  simpa using h p hm

/-- both in memory -/
structure PlayAt (w wr : World) (b m1 m2 low high : Nat) (ML : List (LK × Nat)) (v : Value) (MR : List (LK × Nat)) : Prop where
  lab : ∃ S, LabAt wr b m1 m2 low high S ∧ S.Perm ML
  held : Held wr w.heap.size v MR
  apart : ∀ g, v.ownBlock = some g → g ≠ b ∧ g ≠ m1 ∧ g ≠ m2
  f1 : w.heap.size ≤ m1
  f2 : w.heap.size ≤ m2
  below : Below w.heap.size w wr
section
variable {w wr w' : World} {b m1 m2 low high : Nat} {ML MR : List (LK × Nat)} {v : Value}
theorem PlayAt.mem (h : PlayAt w wr b m1 m2 low high ML v MR) (hb : Below wr.heap.size wr w') : PlayAt w w' b m1 m2 low high ML v MR := by
  obtain ⟨S, h1, h2⟩ := h.lab
  exact ⟨⟨S, h1.below hb (Nat.le_refl _), h2⟩, OwnM.below h.held hb (Nat.le_refl _), h.apart, h.f1, h.f2, h.below.trans (hb.mono h.below.size)⟩
theorem PlayAt.drew (h : PlayAt w wr b m1 m2 low high ML v MR) (n : Nat) : PlayAt w (wr.drewN n) b m1 m2 low high ML v MR := by
  obtain ⟨S, h1, h2⟩ := h.lab
  exact ⟨⟨S, h1.drew n, h2⟩, h.held, h.apart, h.f1, h.f2, below_drewN h.below n⟩
theorem PlayAt.alloc (h : PlayAt w wr b m1 m2 low high ML v MR) (o : Obj) : PlayAt w (wr.alloc o) b m1 m2 low high ML v MR :=
  h.mem ((Below.refl _ _).alloc (Nat.le_refl _) o)
theorem PlayAt.keys (h : PlayAt w wr b m1 m2 low high ML v MR) : ML.Pairwise (fun p q => p.1 ≠ q.1) := by
  obtain ⟨S, h1, h2⟩ := h.lab
  exact (h2.pairwise_iff (fun a => fun e => a e.symm)).1 h1.keys
theorem PlayAt.labels (h : PlayAt w wr b m1 m2 low high ML v MR) : ML.Pairwise (fun p q => p.2 ≠ q.2) := by
  obtain ⟨S, h1, h2⟩ := h.lab
  exact (h2.pairwise_iff (fun a => fun e => a e.symm)).1 h1.labels
theorem PlayAt.grown (h : PlayAt w wr b m1 m2 low high ML v MR) {S ML' : List (LK × Nat)} (hg : GrownX (fun i => i = m1 ∨ i = m2) wr w') (hl : LabAt w' b m1 m2 low high S) (hp : S.Perm ML') : PlayAt w w' b m1 m2 low high ML' v MR :=
  ⟨⟨S, hl, hp⟩, OwnM.keep h.held (fun k hk => hg.block k (h.held.lt k hk).2 (fun e => by
    obtain ⟨_, a, b⟩ := h.apart k hk
    rcases e with e | e
    · exact a e
    · exact b e)), h.apart, h.f1, h.f2, hg.below2 h.below h.f1 h.f2⟩
end

section
variable {w wr : World} {b m1 m2 low high : Nat} {ML MR : List (LK × Nat)} {v : Value}
def TkPost (w wr : World) (b m1 m2 low high : Nat) (ML : List (LK × Nat)) (v : Value) (MR : List (LK × Nat)) (k : LK) (e : Ending) (w' : World) : Prop :=
  ∃ M' n c, TkRel ML low high k M' n c ∧ e = .returned (.tuple #[.int .u32 n, .int .i64 c]) ∧ PlayAt w w' b m1 m2 low high M' v MR ∧ GrownX (fun i => i = m1 ∨ i = m2) wr w'
theorem p_take (k : LK) (hk : k.Ok) (h : PlayAt w wr b m1 m2 low high ML v MR) :
    Calls Try.prog 9 #[.pointer (some ⟨b, 0, none⟩), k.v] wr (TkPost w wr b m1 m2 low high ML v MR k) := by
  obtain ⟨S, hl, hp⟩ := h.lab
  by_cases hm : kmay k = true
  · by_cases hin : ∃ p ∈ S, p.1 = k
    · obtain ⟨⟨k', n⟩, hin, rfl⟩ := hin
      obtain ⟨i, hi⟩ := List.getElem?_of_mem hin
      refine (take_some _ _ _ _ _ _ i S k' n hl hk hm hi).mono ?_
      rintro e w' ⟨rfl, hb⟩
      exact ⟨ML, n, 0, .inr (.inl ⟨hm, hp.mem_iff.1 hin, rfl, rfl⟩), rfl, h.mem hb, GrownX.of_below hb⟩
    · have hno : ∀ p ∈ S, p.1 ≠ k := fun p hp e => hin ⟨p, hp, e⟩
      have hno' : ∀ p ∈ ML, p.1 ≠ k := fun p h => hno p (hp.mem_iff.2 h)
      refine (take_new _ _ _ _ _ _ S k hl hk hm hno).mono ?_
      rintro e w' (⟨n, a0, a1, a2, a3, rfl, hl', hg⟩ | ⟨a1, rfl, hb⟩)
      · refine ⟨ML ++ [(k, n)], n, 0, .inr (.inr (.inl ⟨hm, hno', ⟨a0, a1, fun q h1 h2 => ?_, fun p h => a3 p (hp.mem_iff.2 h)⟩, rfl, rfl⟩)), rfl, h.grown hg hl' (hp.append_right _), hg⟩
        obtain ⟨p, hq, e⟩ := a2 q h1 h2
        exact ⟨p, hp.mem_iff.1 hq, e⟩
      · refine ⟨ML, 0, 7, .inr (.inr (.inr ⟨hm, hno', fun q h1 h2 => ?_, rfl, rfl, rfl⟩)), rfl, h.mem hb, GrownX.of_below hb⟩
        obtain ⟨p, hq, e⟩ := a1 q h1 h2
        exact ⟨p, hp.mem_iff.1 hq, e⟩
  · have hm : kmay k = false := by simpa using hm
    refine (take_bad _ _ _ _ _ _ S k hl hk hm).mono ?_
    rintro e w' ⟨rfl, hb⟩
    exact ⟨ML, 0, 2, .inl ⟨hm, rfl, rfl, rfl⟩, rfl, h.mem hb, GrownX.of_below hb⟩
def RTkPost (w : World) (b m1 m2 low high : Nat) (ML : List (LK × Nat)) (MR : List (LK × Nat)) (k : LK) (e : Ending) (w' : World) : Prop :=
  ∃ v' M' n c, TkRel MR low high k M' n c ∧ e = .returned (.tuple #[v', .int .u32 n, .int .i64 c]) ∧ PlayAt w w' b m1 m2 low high ML v' M'
theorem r_take (k : LK) (hk : k.Ok) (h : PlayAt w wr b m1 m2 low high ML v MR) (hM : MR.length ≤ 1000000) :
    Calls Try.prog 15 #[v, .int .u32 low, .int .u32 high, k.v] wr (RTkPost w b m1 m2 low high ML MR k) := by
  obtain ⟨S, hl, hp⟩ := h.lab
  by_cases hm : kmay k = true
  · by_cases hin : ∃ p ∈ MR, p.1 = k
    · obtain ⟨i, ⟨k', n⟩, hi1, hi2, hi3⟩ := first_of hin
      simp only at hi2
      subst hi2
      refine (rtake_has MR _ v low high k' wr hk h.held hM hm i n hi1 (fun j hj p hp => hi3 j hj p hp)).mono ?_
      rintro e w' ⟨rfl, hb⟩
      exact ⟨v, MR, n, 0, .inr (.inl ⟨hm, List.mem_of_getElem? hi1, rfl, rfl⟩), rfl, h.mem hb⟩
    · have hno : ∀ p ∈ MR, p.1 ≠ k := fun p hp e => hin ⟨p, hp, e⟩
      refine (rtake_new MR _ v low high k wr hk h.held hM hm hno h.below.size hl.lh hl.hi).mono ?_
      rintro e w' (⟨n, v', a0, a1, a2, a3, rfl, hh, hg, ha⟩ | ⟨a1, rfl, hb⟩)
      · refine ⟨v', MR ++ [(k, n)], n, 0, .inr (.inr (.inl ⟨hm, hno, ⟨a0, a1, a2, a3⟩, rfl, rfl⟩)), rfl, ?_⟩
        have hX : GrownX (fun i => v.ownBlock = some i) wr w' := ⟨hg.os, hg.tape, hg.output, hg.size, fun i hi hx => hg.block i hi (fun e => hx e.symm)⟩
        obtain ⟨l1, l2, l3⟩ := hl.lt
        refine ⟨⟨S, hl.grownX hX (fun i hi => h.apart i hi), hp⟩, hh, fun g hg' => ?_, h.f1, h.f2, h.below.grown hg h.below.size (fun k hk => (h.held.lt k hk).1)⟩
        rcases ha with ha | ⟨g2, ha, hge⟩
        · exact h.apart g (ha.symm.trans hg')
        · rw [ha] at hg'
          injection hg' with hg'
          omega
      · exact ⟨v, MR, 0, 7, .inr (.inr (.inr ⟨hm, hno, a1, rfl, rfl, rfl⟩)), rfl, h.mem hb⟩
  · have hm : kmay k = false := by simpa using hm
    refine (rtake_bad MR _ v low high k wr hk h.held hm).mono ?_
    rintro e w' ⟨rfl, hb⟩
    exact ⟨v, MR, 0, 2, .inl ⟨hm, rfl, rfl, rfl⟩, rfl, h.mem hb⟩
def GvPost (w wr : World) (b m1 m2 low high : Nat) (ML : List (LK × Nat)) (v : Value) (MR : List (LK × Nat)) (k : LK) (e : Ending) (w' : World) : Prop :=
  e = .returned (.bool (decide ((gvM ML k).length < ML.length))) ∧ PlayAt w w' b m1 m2 low high (gvM ML k) v MR ∧ GrownX (fun i => i = m1 ∨ i = m2) wr w'
theorem p_give (k : LK) (hk : k.Ok) (h : PlayAt w wr b m1 m2 low high ML v MR) :
    Calls Try.prog 12 #[.pointer (some ⟨b, 0, none⟩), k.v] wr (GvPost w wr b m1 m2 low high ML v MR k) := by
  obtain ⟨S, hl, hp⟩ := h.lab
  by_cases hin : ∃ p ∈ S, p.1 = k
  · obtain ⟨⟨k', n⟩, hin, rfl⟩ := hin
    obtain ⟨i, hi⟩ := List.getElem?_of_mem hin
    obtain ⟨g1, g2⟩ := gv_perm hp hl.keys hi
    refine (give_some _ _ _ _ _ _ i S k' n hl hk hi).mono ?_
    rintro e w' ⟨rfl, hl', hg⟩
    exact ⟨by rw [decide_eq_true g2], h.grown hg hl' g1, hg⟩
  · have hno : ∀ p ∈ S, p.1 ≠ k := fun p hp e => hin ⟨p, hp, e⟩
    have hno' : ∀ p ∈ ML, p.1 ≠ k := fun p h => hno p (hp.mem_iff.2 h)
    refine (give_none _ _ _ _ _ _ S k hl hk hno).mono ?_
    rintro e w' ⟨rfl, hb⟩
    have := gv_none hno'
    exact ⟨by rw [this, decide_eq_false (Nat.lt_irrefl _)], by rw [this]; exact h.mem hb, GrownX.of_below hb⟩
def RGvPost (w wr : World) (b m1 m2 low high : Nat) (ML : List (LK × Nat)) (MR : List (LK × Nat)) (k : LK) (e : Ending) (w' : World) : Prop :=
  ∃ v', e = .returned (.tuple #[v', .bool (decide ((gvM MR k).length < MR.length))]) ∧ PlayAt w w' b m1 m2 low high ML v' (gvM MR k) ∧ Below wr.heap.size wr w'
theorem r_give (k : LK) (hk : k.Ok) (h : PlayAt w wr b m1 m2 low high ML v MR) (hM : MR.length ≤ 1000000) :
    Calls Try.prog 16 #[v, k.v] wr (RGvPost w wr b m1 m2 low high ML MR k) := by
  obtain ⟨S, hl, hp⟩ := h.lab
  refine (rgive_any MR _ v k wr hk h.held hM).mono ?_
  rintro e w' ⟨v', rfl, hh, hb⟩
  obtain ⟨l1, l2, l3⟩ := hl.lt
  refine ⟨v', rfl, ⟨⟨S, hl.below hb (Nat.le_refl _), hp⟩, hh.lower h.below.size, fun g hg => ?_, h.f1, h.f2, h.below.trans (hb.mono h.below.size)⟩, hb⟩
  have := (hh.lt g hg).1
  omega
def OfPost (w wr : World) (b m1 m2 low high : Nat) (ML : List (LK × Nat)) (v : Value) (MR M : List (LK × Nat)) (k : LK) (e : Ending) (w' : World) : Prop :=
  ∃ n t, OfRel M k n t ∧ e = .returned (.tuple #[.int .u32 n, .bool t]) ∧ PlayAt w w' b m1 m2 low high ML v MR ∧ Below wr.heap.size wr w'
theorem p_of (k : LK) (hk : k.Ok) (h : PlayAt w wr b m1 m2 low high ML v MR) :
    Calls Try.prog 13 #[.pointer (some ⟨b, 0, none⟩), k.v] wr (OfPost w wr b m1 m2 low high ML v MR ML k) := by
  obtain ⟨S, hl, hp⟩ := h.lab
  by_cases hin : ∃ p ∈ S, p.1 = k
  · obtain ⟨⟨k', n⟩, hin, rfl⟩ := hin
    obtain ⟨i, hi⟩ := List.getElem?_of_mem hin
    refine (of_some _ _ _ _ _ _ i S k' n hl hk hi).mono ?_
    rintro e w' ⟨rfl, hb⟩
    exact ⟨n, true, .inl ⟨hp.mem_iff.1 hin, rfl⟩, rfl, h.mem hb, hb⟩
  · have hno : ∀ p ∈ S, p.1 ≠ k := fun p hp e => hin ⟨p, hp, e⟩
    refine (of_none _ _ _ _ _ _ S k hl hk hno).mono ?_
    rintro e w' ⟨rfl, hb⟩
    exact ⟨0, false, .inr ⟨fun p h => hno p (hp.mem_iff.2 h), rfl, rfl⟩, rfl, h.mem hb, hb⟩
theorem r_of (k : LK) (hk : k.Ok) (h : PlayAt w wr b m1 m2 low high ML v MR) (hM : MR.length ≤ 1000000) :
    Calls Try.prog 17 #[v, k.v] wr (OfPost w wr b m1 m2 low high ML v MR MR k) := by
  by_cases hin : ∃ p ∈ MR, p.1 = k
  · obtain ⟨i, ⟨k', n⟩, hi1, hi2, hi3⟩ := first_of hin
    simp only at hi2
    subst hi2
    refine (rof_some MR _ v k' hk i n wr h.held hM hi1 (fun j hj p hp => hi3 j hj p hp)).mono ?_
    rintro e w' ⟨rfl, hb⟩
    exact ⟨n, true, .inl ⟨List.mem_of_getElem? hi1, rfl⟩, rfl, h.mem hb, hb⟩
  · have hno : ∀ p ∈ MR, p.1 ≠ k := fun p hp e => hin ⟨p, hp, e⟩
    refine (rof_none MR _ v k hk wr h.held hM hno).mono ?_
    rintro e w' ⟨rfl, hb⟩
    exact ⟨0, false, .inr ⟨hno, rfl, rfl⟩, rfl, h.mem hb, hb⟩
def KyPost (w wr : World) (b m1 m2 low high : Nat) (ML : List (LK × Nat)) (v : Value) (MR M : List (LK × Nat)) (n : Nat) (e : Ending) (w' : World) : Prop :=
  ∃ k t, KyRel M n k t ∧ e = .returned (.tuple #[.agg #[.string k.vrf, .int .i64 k.fam, .int .u64 k.rd, .string k.addr, .int .i64 k.len], .bool t]) ∧ PlayAt w w' b m1 m2 low high ML v MR ∧ Below wr.heap.size wr w'
theorem p_key (n : Nat) (hn : n < 4294967296) (h : PlayAt w wr b m1 m2 low high ML v MR) :
    Calls Try.prog 14 #[.pointer (some ⟨b, 0, none⟩), .int .u32 n] wr (KyPost w wr b m1 m2 low high ML v MR ML n) := by
  obtain ⟨S, hl, hp⟩ := h.lab
  by_cases hin : ∃ p ∈ S, p.2 = n
  · obtain ⟨⟨k', n⟩, hin, rfl⟩ := hin
    obtain ⟨i, hi⟩ := List.getElem?_of_mem hin
    refine (lkey_some _ _ _ _ _ _ i S k' n hl hi).mono ?_
    rintro e w' ⟨rfl, hb⟩
    exact ⟨k', true, .inl ⟨hp.mem_iff.1 hin, rfl⟩, rfl, h.mem hb, hb⟩
  · have hno : ∀ p ∈ S, p.2 ≠ n := fun p hp e => hin ⟨p, hp, e⟩
    refine (lkey_none _ _ _ _ _ _ S n hl hn hno).mono ?_
    rintro e w' ⟨rfl, hb⟩
    exact ⟨noKey, false, .inr ⟨fun p h => hno p (hp.mem_iff.2 h), rfl, rfl⟩, rfl, h.mem hb, hb⟩
theorem r_key (n : Nat) (h : PlayAt w wr b m1 m2 low high ML v MR) (hM : MR.length ≤ 1000000) :
    Calls Try.prog 18 #[v, .int .u32 n] wr (KyPost w wr b m1 m2 low high ML v MR MR n) := by
  by_cases hin : ∃ p ∈ MR, p.2 = n
  · obtain ⟨i, ⟨k', n'⟩, hi1, hi2, hi3⟩ := first_of hin
    simp only at hi2
    subst hi2
    refine (rkey_some MR _ v k' i n' wr h.held hM hi1 (fun j hj p hp => hi3 j hj p hp)).mono ?_
    rintro e w' ⟨rfl, hb⟩
    exact ⟨k', true, .inl ⟨List.mem_of_getElem? hi1, rfl⟩, rfl, h.mem hb, hb⟩
  · have hno : ∀ p ∈ MR, p.2 ≠ n := fun p hp e => hin ⟨p, hp, e⟩
    refine (rkey_none MR _ v n wr h.held hM hno).mono ?_
    rintro e w' ⟨rfl, hb⟩
    exact ⟨noKey, false, .inr ⟨hno, rfl, rfl⟩, rfl, h.mem hb, hb⟩
def CpPost (w wr : World) (low high : Nat) (ML : List (LK × Nat)) (v : Value) (MR : List (LK × Nat)) (b m1 m2 : Nat) (e : Ending) (w' : World) : Prop :=
  ∃ b' m1' m2', e = .returned (.pointer (some ⟨b', 0, none⟩)) ∧ PlayAt w w' b m1 m2 low high ML v MR ∧ (∃ S, LabAt w' b' m1' m2' low high S ∧ S.Perm ML) ∧ (b' ≠ m1 ∧ b' ≠ m2 ∧ m1' ≠ m1 ∧ m1' ≠ m2 ∧ m2' ≠ m1 ∧ m2' ≠ m2) ∧ (∀ g, v.ownBlock = some g → g ≠ b' ∧ g ≠ m1' ∧ g ≠ m2') ∧ w.heap.size ≤ m1' ∧ w.heap.size ≤ m2' ∧ Below wr.heap.size wr w'
theorem p_copy (h : PlayAt w wr b m1 m2 low high ML v MR) :
    Calls Try.prog 19 #[.pointer (some ⟨b, 0, none⟩)] wr (CpPost w wr low high ML v MR b m1 m2) := by
  obtain ⟨S, hl, hp⟩ := h.lab
  refine (copy_any _ _ _ _ _ _ S hl).mono ?_
  rintro e w' ⟨S', hp', rfl, hl', hb⟩
  obtain ⟨l1, l2, l3⟩ := hl.lt
  have := h.below.size
  refine ⟨_, _, _, rfl, h.mem hb, ⟨S', hl', hp'.trans hp⟩, ⟨by omega, by omega, by omega, by omega, by omega, by omega⟩, fun g hg => ?_, by omega, by omega, hb⟩
  have := (h.held.lt g hg).2
  omega
theorem p_left (h : PlayAt w wr b m1 m2 low high ML v MR) (hM : ML.length ≤ 1000000) :
    Calls Try.prog 11 #[.pointer (some ⟨b, 0, none⟩)] wr fun e w' => e = .returned (.int .i64 ((high : Int) - low + 1 - ML.length)) ∧ PlayAt w w' b m1 m2 low high ML v MR := by
  obtain ⟨S, hl, hp⟩ := h.lab
  refine (left_any _ _ _ _ _ _ S hl (by rw [hp.length_eq]; exact hM)).mono ?_
  rintro e w' ⟨rfl, q, rfl⟩
  exact ⟨by rw [hp.length_eq], h.drew q⟩
end
end Go.Proofs.Ytngehobekmijbaa
