/-
  A trie in memory: a root's tree laid anew, a root put in between; what it holds. Conditions: none.
-/
import Derived.Test.YthnjepehiddogaaTrL
set_option linter.unusedVariables false
set_option linter.unusedSimpArgs false
namespace Go.Proofs.Ythnjepehiddogaa
open Go.RowKit Go.MapKept

theorem Tt.Good.memf {f rd : Int} : ∀ {t : Tt Int} {C : Tp → Prop}, t.Good f rd C → ∀ {p : Tp} {u : Int}, t.Mem p u → p.Ok ∧ p.fam = f ∧ p.rd = rd
  | .nil, _, _, _, _, h => h.elim
  | .node a has v l r, C, h, p, u, hm => by
    obtain ⟨h1, h2, h3, h4, h5, h6⟩ := h
    rcases hm with ⟨_, rfl, _⟩ | hm | hm
    · exact ⟨h1, h2, h3⟩
    · exact h5.memf hm
    · exact h6.memf hm
theorem pw_set {α : Type} {P : α → α → Prop} : ∀ {l : List α} {i : Nat} {x y : α}, l.Pairwise P → l[i]? = some x → (∀ s ∈ l, P s x → P s y) → (∀ s ∈ l, P x s → P y s) → (l.set i y).Pairwise P
  | [], i, x, y, h, hi, _, _ => by simp at hi
  | a :: l, 0, x, y, h, hi, h1, h2 => by
    simp only [List.getElem?_cons_zero, Option.some.injEq] at hi
    subst hi
    rw [List.pairwise_cons] at h
    rw [List.set_cons_zero, List.pairwise_cons]
    exact ⟨fun s hs => h2 s (List.mem_cons_of_mem _ hs) (h.1 s hs), h.2⟩
  | a :: l, i + 1, x, y, h, hi, h1, h2 => by
    simp only [List.getElem?_cons_succ] at hi
    rw [List.pairwise_cons] at h
    rw [List.set_cons_succ, List.pairwise_cons]
    refine ⟨fun s hs => ?_, pw_set h.2 hi (fun s hs => h1 s (List.mem_cons_of_mem _ hs)) (fun s hs => h2 s (List.mem_cons_of_mem _ hs))⟩
    rcases List.mem_or_eq_of_mem_set hs with hs | rfl
    · exact h.1 s hs
    · exact h1 a (List.mem_cons_self ..) (h.1 x (List.mem_of_getElem? hi))
/-- who is in a list with one laid anew: the new one, or one at another place -/
theorem mem_set_at {α : Type} {l : List α} {i : Nat} {y s : α} (hs : s ∈ l.set i y) : s = y ∨ ∃ j, j ≠ i ∧ l[j]? = some s := by
  obtain ⟨j, hj⟩ := List.getElem?_of_mem hs
  rw [List.getElem?_set] at hj
  by_cases hij : i = j
  · subst hij
    rw [if_pos rfl] at hj
    split at hj
    · injection hj with hj
      exact Or.inl hj.symm
    · cases hj
  · rw [if_neg hij] at hj
    exact Or.inr ⟨j, fun e => hij e.symm, hj⟩
theorem pw_two {α : Type} {P : α → α → Prop} {l : List α} {i j : Nat} {x y : α} (h : l.Pairwise P) (hi : l[i]? = some x) (hj : l[j]? = some y) (hne : j ≠ i) : P x y ∨ P y x := by
  obtain ⟨h1, h2⟩ := List.getElem?_eq_some_iff.1 hi
  obtain ⟨h3, h4⟩ := List.getElem?_eq_some_iff.1 hj
  rcases Nat.lt_or_gt_of_ne hne with hlt | hlt
  · have := List.pairwise_iff_getElem.1 h j i h3 h1 hlt
    rw [h2, h4] at this
    exact Or.inr this
  · have := List.pairwise_iff_getElem.1 h i j h1 h3 hlt
    rw [h2, h4] at this
    exact Or.inl this
/-- what a trie holds -/
def RMem (R : List Rt) (q : Tp) (x : Int) : Prop := ∃ r ∈ R, r.t.Mem q x
/-- what a change of a root's tree leaves -/
structure Laid (w : World) (bt base : Nat) (v : Value) (R : List Rt) (w' : World) (v' : Value) (n' : Int) (R' : List Rt) : Prop where
  t : TrieAt w' bt base v' n' R'
  g : GrownX (trX bt v R) w w'
  s : ∀ x, trX bt v' R' x → trX bt v R x ∨ w.heap.size ≤ x
section
variable {w w' : World} {bt base : Nat} {v : Value} {n : Int} {R : List Rt}
theorem TrieAt.laid {W2 : World} {g cap m i : Nat} {r : Rt} {A' : Option Addr} {S' : List Nat} {T' : Tt Int} (h : TrieAt w bt base (.slice (some ⟨g, 0, none⟩) m cap) n R) (hi : R[i]? = some r) (hs : SetAt w r.S (.pointer A') T' S' W2) (hg : T'.Good r.fam r.rd (fun _ => True)) :
    Laid w bt base (.slice (some ⟨g, 0, none⟩) m cap) R (W2.setCell ⟨g, i * 3 + 2, none⟩ (.pointer A')) (.slice (some ⟨g, 0, none⟩) m cap) n (R.set i ⟨r.fam, r.rd, A', S', T'⟩) ∧ W2.cell? ⟨g, i * 3 + 2, none⟩ = some (.pointer r.A) ∧ W2.frozen? ⟨g, i * 3 + 2, none⟩ = false := by
  have hm : r ∈ R := List.mem_of_getElem? hi
  have hil := (List.getElem?_eq_some_iff.1 hi).1
  obtain ⟨_, c2, hv⟩ := h.o.form
  obtain rfl : m = R.length := by
    injection hv with _ e _
  have hgt : g ≠ bt := h.ne g rfl
  have hgs : g ∉ r.S := h.nv r hm g rfl
  have hgl : g < w.heap.size := (h.o.lt g rfl).2
  have g1 := setCell_row W2 g (i * 3 + 2) (.pointer A')
  have hgS' : g ∉ S' := fun hx => by
    rcases hs.s g hx with k | k
    · exact hgs k
    · omega
  have ho2 : OwnM W2 base 70 3 (.slice (some ⟨g, 0, none⟩) R.length cap) R.length (flatR R) := h.o.keep fun k hk => by
    obtain rfl : g = k := by simpa [Value.ownBlock] using hk
    exact hs.g.block g hgl hgs
  have hlt : ∀ s ∈ R, ∀ x ∈ s.S, x < w.heap.size := fun s hsR x hx => (h.t s hsR).lt x hx
  have hlen : (R.set i ⟨r.fam, r.rd, A', S', T'⟩).length = R.length := List.length_set
  refine ⟨⟨⟨?_, ?_, ?_, ?_, ?_, ?_, ?_, ?_, ?_, h.ne⟩, ?_, ?_⟩, ?_⟩
  · exact (h.c.grownX hs.g (h.nt r hm)).row g1 hgt.symm
  · rw [hlen, ← flatR_set R i r A' S' T' hi]
    exact ho2.cellm (by omega) _
  · intro s hs'
    rcases mem_set_at hs' with rfl | ⟨j, hj, hjs⟩
    · exact hs.t.grownX (GrownX.of_row g1 (X := fun x => x = g) rfl) (fun x hx e => hgS' (e ▸ hx))
    · have hsm := List.mem_of_getElem? hjs
      have hdis : ∀ x ∈ s.S, x ∉ r.S := by
        rcases pw_two h.dis hi hjs hj with k | k
        · exact fun x hx hy => k x hy hx
        · exact k
      exact ((h.t s hsm).grownX hs.g hdis).grownX (GrownX.of_row g1 (X := fun x => x = g) rfl) (fun x hx e => h.nv s hsm g rfl (e ▸ hx))
  · intro s hs'
    rcases mem_set_at hs' with rfl | ⟨j, hj, hjs⟩
    · exact hg
    · exact h.g s (List.mem_of_getElem? hjs)
  · intro s hs'
    rcases mem_set_at hs' with rfl | ⟨j, hj, hjs⟩
    · exact h.f r hm
    · exact h.f s (List.mem_of_getElem? hjs)
  · exact pw_set h.ord hi (fun _ _ k => k) (fun _ _ k => k)
  · refine pw_set h.dis hi (fun s hsR k x hx hy => ?_) (fun s hsR k x hy hx => ?_)
    · rcases hs.s x hy with k2 | k2
      · exact k x hx k2
      · have := hlt s hsR x hx
        omega
    · rcases hs.s x hy with k2 | k2
      · exact k x k2 hx
      · have := hlt s hsR x hx
        omega
  · intro s hs'
    rcases mem_set_at hs' with rfl | ⟨j, hj, hjs⟩
    · intro hx
      rcases hs.s _ hx with k | k
      · exact h.nt r hm k
      · have := h.c.lt
        omega
    · exact h.nt s (List.mem_of_getElem? hjs)
  · intro s hs' k hk
    obtain rfl : g = k := by simpa [Value.ownBlock] using hk
    rcases mem_set_at hs' with rfl | ⟨j, hj, hjs⟩
    · exact hgS'
    · exact h.nv s (List.mem_of_getElem? hjs) g rfl
  · exact (hs.g.mono fun x hx => Or.inr (Or.inr ⟨r, hm, hx⟩)).trans (GrownX.of_row g1 (Or.inr (Or.inl rfl)))
  · rintro x (rfl | hx | ⟨s, hs', hx⟩)
    · exact Or.inl (Or.inl rfl)
    · exact Or.inl (Or.inr (Or.inl hx))
    · rcases mem_set_at hs' with rfl | ⟨j, hj, hjs⟩
      · rcases hs.s x hx with k | k
        · exact Or.inl (Or.inr (Or.inr ⟨r, hm, k⟩))
        · exact Or.inr k
      · exact Or.inl (Or.inr (Or.inr ⟨s, List.mem_of_getElem? hjs, hx⟩))
  · have f := flatR_at R i r hi 2 (by omega)
    exact ho2.reads f
/-- the number of values laid anew -/
theorem TrieAt.count (h : TrieAt w bt base v n R) (k : Int) : TrieAt (w.setCell ⟨bt, 2, none⟩ (.int .i64 k)) bt base v k R := by
  have g1 := setCell_row w bt 2 (.int .i64 k)
  refine ⟨(h.c.setc 2 (.int .i64 k)).cast rfl, h.o.grown g1 (fun j hj e => h.ne j hj (by injection e)), fun r hr => (h.t r hr).grownX (GrownX.of_row g1 (X := fun x => x = bt) rfl) (fun x hx e => h.nt r hr (e ▸ hx)), h.g, h.f, h.ord, h.dis, h.nt, h.nv, h.ne⟩
theorem Laid.count {v' : Value} {n' : Int} {R' : List Rt} (h : Laid w bt base v R w' v' n' R') (k : Int) : Laid w bt base v R (w'.setCell ⟨bt, 2, none⟩ (.int .i64 k)) v' k R' :=
  ⟨h.t.count k, h.g.trans (GrownX.of_row (setCell_row _ _ _ _) (Or.inl rfl)), h.s⟩
theorem Laid.from_ {w0 : World} {v' : Value} {n' : Int} {R' : List Rt} (h : Laid w bt base v R w' v' n' R') (hb : Below w0.heap.size w0 w) : Laid w0 bt base v R w' v' n' R' :=
  ⟨h.t, (GrownX.of_below hb).trans h.g, fun x hx => (h.s x hx).imp id fun k => Nat.le_trans hb.size k⟩
theorem Laid.trans {w1 w2 : World} {v1 v2 : Value} {n1 n2 : Int} {R1 R2 : List Rt} (h : Laid w bt base v R w1 v1 n1 R1) (k : Laid w1 bt base v1 R1 w2 v2 n2 R2) : Laid w bt base v R w2 v2 n2 R2 := by
  refine ⟨k.t, ⟨k.g.os.trans h.g.os, k.g.tape.trans h.g.tape, k.g.output.trans h.g.output, Nat.le_trans h.g.size k.g.size, fun i hi hx => ?_⟩, fun x hx => ?_⟩
  · have h1 : ¬ trX bt v1 R1 i := fun hy => by
      rcases h.s i hy with j | j
      · exact hx j
      · omega
    rw [k.g.block i (Nat.lt_of_lt_of_le hi h.g.size) h1, h.g.block i hi hx]
  · rcases k.s x hx with j | j
    · exact h.s x j
    · exact Or.inr (Nat.le_trans h.g.size j)
theorem Laid.to_ {w2 : World} {v' : Value} {n' : Int} {R' : List Rt} (h : Laid w bt base v R w' v' n' R') (hb : Below w'.heap.size w' w2) : Laid w bt base v R w2 v' n' R' :=
  ⟨h.t.below hb, h.g.trans (GrownX.of_below hb), h.s⟩
/-- a root put in between -/
theorem TrieAt.put {i : Nat} {p : Tp} {v' : Value} (h : TrieAt w bt base v n R) (hf : (p.fam = 1 ∨ p.fam = 2) ∧ p.rd = 0) (hi : RootIs R p i false) (hg : GrownX (fun x => x = bt ∨ v.ownBlock = some x) w w')
    (hc : CellsAt w' bt #[.bool true, v', .int .i64 n] 66) (ho : OwnM w' base 70 3 v' (R.length + 1) (flatR (R.take i ++ (⟨p.fam, p.rd, none, [], .nil⟩ : Rt) :: R.drop i)))
    (hv : v'.ownBlock = v.ownBlock ∨ ∀ k, v'.ownBlock = some k → w.heap.size ≤ k) : Laid w bt base v R w' v' n (R.take i ++ (⟨p.fam, p.rd, none, [], .nil⟩ : Rt) :: R.drop i) := by
  obtain ⟨hil, h1, h2⟩ := hi
  have hmem : ∀ s ∈ R.take i ++ (⟨p.fam, p.rd, none, [], .nil⟩ : Rt) :: R.drop i, s = ⟨p.fam, p.rd, none, [], .nil⟩ ∨ s ∈ R := fun s hs => by
    rcases List.mem_append.1 hs with hs | hs
    · exact Or.inr (List.mem_of_mem_take hs)
    · rcases List.mem_cons.1 hs with hs | hs
      · exact Or.inl hs
      · exact Or.inr (List.mem_of_mem_drop hs)
  have hvb : ∀ s ∈ R, ∀ k, v'.ownBlock = some k → k ∉ s.S := fun s hs k hk hx => by
    rcases hv with e | e
    · exact h.nv s hs k (e ▸ hk) hx
    · have := (h.t s hs).lt k hx
      have := e k hk
      omega
  have pw : ∀ {P : Rt → Rt → Prop}, R.Pairwise P → (∀ s ∈ R.take i, P s ⟨p.fam, p.rd, none, [], .nil⟩) → (∀ s ∈ R.drop i, P ⟨p.fam, p.rd, none, [], .nil⟩ s) → (R.take i ++ (⟨p.fam, p.rd, none, [], .nil⟩ : Rt) :: R.drop i).Pairwise P := fun {P} hp k1 k2 => by
    have hp2 := hp
    rw [← List.take_append_drop i R, List.pairwise_append] at hp2
    rw [List.pairwise_append, List.pairwise_cons]
    refine ⟨hp2.1, ⟨k2, hp2.2.1⟩, fun a ha b hb => ?_⟩
    rcases List.mem_cons.1 hb with rfl | hb
    · exact k1 a ha
    · exact hp2.2.2 a ha b hb
  have hlen : (R.take i ++ (⟨p.fam, p.rd, none, [], .nil⟩ : Rt) :: R.drop i).length = R.length + 1 := by
    rw [List.length_append, List.length_cons, List.length_take, List.length_drop]
    omega
  refine ⟨⟨hc, by rw [hlen]; exact ho, ?_, ?_, ?_, ?_, ?_, ?_, ?_, ?_⟩, hg.mono fun x hx => hx.imp id Or.inl, ?_⟩
  · intro s hs
    rcases hmem s hs with rfl | hs
    · exact ⟨rfl, rfl⟩
    · refine (h.t s hs).grownX hg fun x hx hy => ?_
      rcases hy with rfl | hy
      · exact h.nt s hs hx
      · exact h.nv s hs x hy hx
  · intro s hs
    rcases hmem s hs with rfl | hs
    · exact trivial
    · exact h.g s hs
  · intro s hs
    rcases hmem s hs with rfl | hs
    · exact hf
    · exact h.f s hs
  · refine pw h.ord (fun s hs => ?_) (fun s hs => ?_)
    · obtain ⟨j, hj⟩ := List.getElem?_of_mem hs
      rw [List.getElem?_take] at hj
      split at hj
      · exact h1 j s hj (by omega)
      · cases hj
    · obtain ⟨j, hj⟩ := List.getElem?_of_mem hs
      rw [List.getElem?_drop] at hj
      exact h2 _ s hj (by omega)
  · exact pw h.dis (fun s hs x hx hy => by cases hy) (fun s hs x hx => by cases hx)
  · intro s hs
    rcases hmem s hs with rfl | hs
    · simp
    · exact h.nt s hs
  · intro s hs k hk
    rcases hmem s hs with rfl | hs
    · simp
    · exact hvb s hs k hk
  · intro k hk
    rcases hv with e | e
    · exact h.ne k (e ▸ hk)
    · have := e k hk
      have := h.c.lt
      omega
  · rintro x (rfl | hx | ⟨s, hs, hx⟩)
    · exact Or.inl (Or.inl rfl)
    · rcases hv with e | e
      · exact Or.inl (Or.inr (Or.inl (e ▸ hx)))
      · exact Or.inr (e x hx)
    · rcases hmem s hs with rfl | hs
      · cases hx
      · exact Or.inl (Or.inr (Or.inr ⟨s, hs, hx⟩))
end
theorem rmem_put {R : List Rt} {i : Nat} {f d : Int} (q : Tp) (x : Int) : RMem (R.take i ++ (⟨f, d, none, [], .nil⟩ : Rt) :: R.drop i) q x ↔ RMem R q x := by
  constructor
  · rintro ⟨s, hs, hx⟩
    rcases List.mem_append.1 hs with hs | hs
    · exact ⟨s, List.mem_of_mem_take hs, hx⟩
    · rcases List.mem_cons.1 hs with rfl | hs
      · exact hx.elim
      · exact ⟨s, List.mem_of_mem_drop hs, hx⟩
  · rintro ⟨s, hs, hx⟩
    rw [← List.take_append_drop i R] at hs
    rcases List.mem_append.1 hs with hs | hs
    · exact ⟨s, List.mem_append_left _ hs, hx⟩
    · exact ⟨s, List.mem_append_right _ (List.mem_cons_of_mem _ hs), hx⟩
/-- others than a root's own prefixes stand at other places -/
theorem other_root {R : List Rt} {i j : Nat} {r s : Rt} (ho : R.Pairwise fun a b => rlt a.fam a.rd b.fam b.rd) (hi : R[i]? = some r) (hj : R[j]? = some s) (hne : j ≠ i) : ¬ (s.fam = r.fam ∧ s.rd = r.rd) := by
  rintro ⟨h1, h2⟩
  rcases pw_two ho hi hj hne with k | k
  · unfold rlt at k
    omega
  · unfold rlt at k
    omega
/-- what a trie holds behind a root's tree that was laid anew -/
theorem rmem_laid {R : List Rt} {i : Nat} {r : Rt} {p : Tp} {A' : Option Addr} {S' : List Nat} {T' : Tt Int} {N : Tp → Int → Prop} (ho : R.Pairwise fun a b => rlt a.fam a.rd b.fam b.rd) (hg : ∀ s ∈ R, s.t.Good s.fam s.rd (fun _ => True)) (hi : R[i]? = some r) (hf : r.fam = p.fam) (hd : r.rd = p.rd)
    (hn : ∀ q x, N q x → q = p) (hT : ∀ q x, T'.Mem q x ↔ N q x ∨ (q ≠ p ∧ r.t.Mem q x)) (q : Tp) (x : Int) : RMem (R.set i ⟨r.fam, r.rd, A', S', T'⟩) q x ↔ N q x ∨ (q ≠ p ∧ RMem R q x) := by
  have hil := (List.getElem?_eq_some_iff.1 hi).1
  constructor
  · rintro ⟨s, hs, hx⟩
    rcases mem_set_at hs with rfl | ⟨j, hj, hjs⟩
    · rcases (hT q x).1 hx with k | ⟨k1, k2⟩
      · exact Or.inl k
      · exact Or.inr ⟨k1, r, List.mem_of_getElem? hi, k2⟩
    · have hsm := List.mem_of_getElem? hjs
      refine Or.inr ⟨fun e => ?_, s, hsm, hx⟩
      obtain ⟨_, k1, k2⟩ := (hg s hsm).memf hx
      rw [e] at k1 k2
      exact other_root ho hi hjs hj ⟨k1.symm.trans hf.symm, k2.symm.trans hd.symm⟩
  · have hnew : (⟨r.fam, r.rd, A', S', T'⟩ : Rt) ∈ R.set i ⟨r.fam, r.rd, A', S', T'⟩ := List.mem_of_getElem? (List.getElem?_set_self hil)
    rintro (k | ⟨k1, s, hs, hx⟩)
    · exact ⟨_, hnew, (hT q x).2 (Or.inl k)⟩
    · obtain ⟨j, hj⟩ := List.getElem?_of_mem hs
      by_cases hji : j = i
      · subst hji
        rw [hi] at hj
        cases hj
        exact ⟨_, hnew, (hT q x).2 (Or.inr ⟨k1, hx⟩)⟩
      · refine ⟨s, List.mem_of_getElem? (i := j) ?_, hx⟩
        rw [List.getElem?_set_ne (fun e => hji e.symm)]
        exact hj
end Go.Proofs.Ythnjepehiddogaa
