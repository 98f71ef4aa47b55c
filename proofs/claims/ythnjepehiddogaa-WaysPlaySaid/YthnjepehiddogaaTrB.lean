/-
  Trees of prefixes: plain law. What is looked up is the longest that covers. Conditions: none.
-/
import Derived.Test.YthnjepehiddogaaTrA
set_option linter.unusedVariables false
set_option linter.unusedSimpArgs false
namespace Go.Proofs.Ythnjepehiddogaa
open Go.RowKit
variable {V : Type}

def Tt.look : Tt V → Tp → Option (Tp × V)
  | .nil, _ => none
  | .node a has v l r, p =>
    if cmN a p = a.len then
      if a.len = p.len then (if has then some (a, v) else none)
      else match (if p.bit a.len = 0 then l.look p else r.look p) with
        | some y => some y
        | none => if has then some (a, v) else none
    else none
/-- the longest that covers -/
def Longest (t : Tt V) (p : Tp) : Option (Tp × V) → Prop
  | some (q, x) => t.Mem q x ∧ cov q p ∧ ∀ q' x', t.Mem q' x' → cov q' p → q'.len ≤ q.len
  | none => ∀ q' x', t.Mem q' x' → ¬ cov q' p
theorem look_spec {f rd : Int} : ∀ {t : Tt V} {C : Tp → Prop}, t.Good f rd C → ∀ p, Longest t p (t.look p)
  | .nil, _, _, _ => fun _ _ h => h.elim
  | .node a has v l r, C, h, p => by
    obtain ⟨h1, h2, h3, h4, h5, h6⟩ := h
    unfold Tt.look
    have hl : ∀ {q x}, l.Mem q x → Ch a 0 q := fun hm => (h5.mem hm).2.2.2
    have hr : ∀ {q x}, r.Mem q x → Ch a 1 q := fun hm => (h6.mem hm).2.2.2
    by_cases hk : cmN a p = a.len
    · rw [if_pos hk]
      have hcv := cmN_cov.1 hk
      have here : ∀ (P : ∀ q x, (Tt.node a has v l r).Mem q x → cov q p → q = a), Longest (Tt.node a has v l r) p (if has then some (a, v) else none) := fun P => by
        cases hh : has with
        | true =>
          rw [if_pos rfl]
          refine ⟨Or.inl ⟨rfl, rfl, rfl⟩, hcv, fun q' x' hm hc => ?_⟩
          rw [hh] at P
          rw [P q' x' hm hc]
          exact Nat.le_refl _
        | false =>
          rw [if_neg (by simp)]
          intro q' x' hm hc
          rw [hh] at P
          have e := P q' x' hm hc
          subst e
          rcases hm with ⟨g, _⟩ | hm | hm
          · cases g
          · exact Nat.lt_irrefl _ (hl hm).1
          · exact Nat.lt_irrefl _ (hr hm).1
      by_cases hlen : a.len = p.len
      · rw [if_pos hlen]
        refine here fun q x hm hc => ?_
        rcases hm with ⟨_, g, _⟩ | hm | hm
        · exact g.symm
        · have := (hl hm).1; have := hc.1; omega
        · have := (hr hm).1; have := hc.1; omega
      · rw [if_neg hlen]
        have side : ∀ (m o : Tt V) (b : Nat), p.bit a.len = b → (∀ {q x}, m.Mem q x → Ch a b q) → (∀ {q x}, o.Mem q x → ∃ c, c ≠ b ∧ Ch a c q) → (∀ q x, (Tt.node a has v l r).Mem q x ↔ (has = true ∧ a = q ∧ v = x) ∨ m.Mem q x ∨ o.Mem q x) → Longest m p (m.look p) →
            Longest (Tt.node a has v l r) p (match m.look p with | some y => some y | none => if has then some (a, v) else none) := fun m o b hb hm ho hiff ih => by
          have noo : ∀ q x, o.Mem q x → ¬ cov q p := fun q x hq hc => by
            obtain ⟨c, g1, g2⟩ := ho hq
            exact g1 (by rw [← g2.2.2, hc.2 _ g2.1, hb])
          cases hm2 : m.look p with
          | some y =>
            obtain ⟨q, x⟩ := y
            rw [hm2] at ih
            obtain ⟨i1, i2, i3⟩ := ih
            refine ⟨(hiff q x).2 (Or.inr (Or.inl i1)), i2, fun q' x' hq hc => ?_⟩
            rcases (hiff q' x').1 hq with ⟨_, g, _⟩ | hq | hq
            · rw [← g]; exact Nat.le_of_lt (hm i1).1
            · exact i3 q' x' hq hc
            · exact absurd hc (noo q' x' hq)
          | none =>
            rw [hm2] at ih
            refine here fun q x hq hc => ?_
            rcases (hiff q x).1 hq with ⟨_, g, _⟩ | hq | hq
            · exact g.symm
            · exact absurd hc (ih q x hq)
            · exact absurd hc (noo q x hq)
        by_cases hb : p.bit a.len = 0
        · rw [if_pos hb]
          exact side l r 0 hb hl (fun hm => ⟨1, by omega, hr hm⟩) (fun q x => Iff.rfl) (look_spec h5 p)
        · rw [if_neg hb]
          refine side r l 1 (bit_one hb) hr (fun hm => ⟨0, by omega, hl hm⟩) (fun q x => ?_) (look_spec h6 p)
          constructor
          · rintro (g | g | g)
            · exact Or.inl g
            · exact Or.inr (Or.inr g)
            · exact Or.inr (Or.inl g)
          · rintro (g | g | g)
            · exact Or.inl g
            · exact Or.inr (Or.inr g)
            · exact Or.inr (Or.inl g)
    · rw [if_neg hk]
      intro q x hm hc
      refine hk (cmN_cov.2 ?_)
      rcases hm with ⟨_, g, _⟩ | hm | hm
      · rw [g]; exact hc
      · exact cov.trans ⟨Nat.le_of_lt (hl hm).1, (hl hm).2.1⟩ hc
      · exact cov.trans ⟨Nat.le_of_lt (hr hm).1, (hr hm).2.1⟩ hc
end Go.Proofs.Ythnjepehiddogaa
