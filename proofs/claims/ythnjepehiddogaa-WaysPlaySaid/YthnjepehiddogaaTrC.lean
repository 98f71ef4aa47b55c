/-
  Trees of prefixes: plain law. What is taken away is gone, all else stays. Conditions: none.
-/
import Derived.Test.YthnjepehiddogaaTrB
set_option linter.unusedVariables false
set_option linter.unusedSimpArgs false
namespace Go.Proofs.Ythnjepehiddogaa
open Go.RowKit
variable {V : Type}

def Tt.isNil : Tt V → Bool
  | .nil => true
  | .node _ _ _ _ _ => false
/-- a node whose value may be gone: what stands in its place -/
def Tt.shrink (a : Tp) (has : Bool) (v : V) (l r : Tt V) : Tt V :=
  if has || (!l.isNil && !r.isNil) then .node a has v l r else if !l.isNil then l else r
def Tt.del (z : V) : Tt V → Tp → Tt V × Bool
  | .nil, _ => (.nil, false)
  | .node a has v l r, p =>
    if cmN a p = a.len then
      if a.len = p.len then (Tt.shrink a false z l r, has)
      else if p.bit a.len = 0 then (Tt.shrink a has v (l.del z p).1 r, (l.del z p).2) else (Tt.shrink a has v l (r.del z p).1, (r.del z p).2)
    else (.node a has v l r, false)
theorem Tt.Good.weaken {f rd : Int} {C D : Tp → Prop} (h : ∀ c, C c → D c) : ∀ {t : Tt V}, t.Good f rd C → t.Good f rd D
  | .nil, _ => trivial
  | .node _ _ _ _ _, ⟨h1, h2, h3, h4, h5, h6⟩ => ⟨h1, h2, h3, h _ h4, h5, h6⟩
theorem isNil_mem {t : Tt V} (h : t.isNil = true) (q : Tp) (x : V) : ¬ t.Mem q x := by
  cases t with
  | nil => exact fun hm => hm.elim
  | node => cases h
theorem shrink_good {f rd : Int} {a : Tp} {has : Bool} {v : V} {l r : Tt V} {C : Tp → Prop} (h : (Tt.node a has v l r).Good f rd C) (hd : ∀ b c, C a → Ch a b c → C c) : (Tt.shrink a has v l r).Good f rd C := by
  obtain ⟨h1, h2, h3, h4, h5, h6⟩ := h
  unfold Tt.shrink
  split
  · exact ⟨h1, h2, h3, h4, h5, h6⟩
  · split
    · exact h5.weaken (fun c hc => hd 0 c h4 hc)
    · exact h6.weaken (fun c hc => hd 1 c h4 hc)
theorem shrink_mem {a : Tp} {has : Bool} {v : V} {l r : Tt V} (q : Tp) (x : V) : (Tt.shrink a has v l r).Mem q x ↔ (Tt.node a has v l r).Mem q x := by
  unfold Tt.shrink
  cases has with
  | true => exact Iff.rfl
  | false =>
    cases hl : l.isNil with
    | true =>
      show r.Mem q x ↔ _
      constructor
      · exact fun h => Or.inr (Or.inr h)
      · rintro (⟨g, _⟩ | g | g)
        · cases g
        · exact absurd g (isNil_mem hl q x)
        · exact g
    | false =>
      cases hr : r.isNil with
      | true =>
        show l.Mem q x ↔ _
        constructor
        · exact fun h => Or.inr (Or.inl h)
        · rintro (⟨g, _⟩ | g | g)
          · cases g
          · exact g
          · exact absurd g (isNil_mem hr q x)
      | false => exact Iff.rfl
/-- del keeps the order -/
theorem del_good {f rd : Int} {z : V} {p : Tp} : ∀ {t : Tt V} {C : Tp → Prop}, t.Good f rd C → (∀ a b c, C a → Ch a b c → C c) → (t.del z p).1.Good f rd C
  | .nil, _, _, _ => trivial
  | .node a has v l r, C, ⟨h1, h2, h3, h4, h5, h6⟩, hd => by
    unfold Tt.del
    by_cases hk : cmN a p = a.len
    · rw [if_pos hk]
      by_cases hl : a.len = p.len
      · rw [if_pos hl]
        exact shrink_good ⟨h1, h2, h3, h4, h5, h6⟩ (hd a)
      · rw [if_neg hl]
        by_cases hb : p.bit a.len = 0
        · rw [if_pos hb]
          exact shrink_good ⟨h1, h2, h3, h4, del_good h5 (fun c b d hc hcd => hc.down hcd), h6⟩ (hd a)
        · rw [if_neg hb]
          exact shrink_good ⟨h1, h2, h3, h4, h5, del_good h6 (fun c b d hc hcd => hc.down hcd)⟩ (hd a)
    · rw [if_neg hk]
      exact ⟨h1, h2, h3, h4, h5, h6⟩
/-- what is taken away is gone, all else stays; it tells whether it was there -/
theorem del_mem {f rd : Int} {z : V} {p : Tp} (hp : p.Ok) (hpf : p.fam = f) (hpr : p.rd = rd) : ∀ {t : Tt V} {C : Tp → Prop}, t.Good f rd C →
    (∀ (q : Tp) (x : V), (t.del z p).1.Mem q x ↔ q ≠ p ∧ t.Mem q x) ∧ ((t.del z p).2 = true ↔ ∃ x, t.Mem p x)
  | .nil, _, _ => ⟨fun q x => ⟨fun h => h.elim, fun h => h.2.elim⟩, ⟨fun h => (by cases h), fun ⟨_, h⟩ => h.elim⟩⟩
  | .node a has v l r, C, ⟨h1, h2, h3, h4, h5, h6⟩ => by
    have hl : ∀ {q x}, l.Mem q x → Ch a 0 q := fun hm => (h5.mem hm).2.2.2
    have hr : ∀ {q x}, r.Mem q x → Ch a 1 q := fun hm => (h6.mem hm).2.2.2
    unfold Tt.del
    by_cases hk : cmN a p = a.len
    · rw [if_pos hk]
      have hcv := cmN_cov.1 hk
      by_cases hlen : a.len = p.len
      · rw [if_pos hlen]
        have hap : a = p := Tp.ext_bits h1 hp (h2.trans hpf.symm) (h3.trans hpr.symm) hlen hcv.2
        refine ⟨fun q x => (shrink_mem q x).trans ?_, ?_⟩
        · constructor
          · rintro (⟨g, _⟩ | g | g)
            · cases g
            · exact ⟨(hl g).ne (by omega), Or.inr (Or.inl g)⟩
            · exact ⟨(hr g).ne (by omega), Or.inr (Or.inr g)⟩
          · rintro ⟨g0, g | g | g⟩
            · exact absurd (g.2.1.symm.trans hap) g0
            · exact Or.inr (Or.inl g)
            · exact Or.inr (Or.inr g)
        · constructor
          · intro g
            exact ⟨v, Or.inl ⟨g, hap, rfl⟩⟩
          · rintro ⟨x, g | g | g⟩
            · exact g.1
            · exact absurd rfl ((hl g).ne (p := p) (by omega))
            · exact absurd rfl ((hr g).ne (p := p) (by omega))
      · rw [if_neg hlen]
        have hne : a ≠ p := fun e => hlen (by rw [e])
        by_cases hb : p.bit a.len = 0
        · rw [if_pos hb]
          obtain ⟨i1, i2⟩ := del_mem (z := z) hp hpf hpr h5
          refine ⟨fun q x => (shrink_mem q x).trans ?_, i2.trans ?_⟩
          · constructor
            · rintro (g | g | g)
              · exact ⟨fun e => hne (g.2.1.trans e), Or.inl g⟩
              · exact ⟨((i1 q x).1 g).1, Or.inr (Or.inl ((i1 q x).1 g).2)⟩
              · exact ⟨(hr g).ne_bit (by omega), Or.inr (Or.inr g)⟩
            · rintro ⟨g0, g | g | g⟩
              · exact Or.inl g
              · exact Or.inr (Or.inl ((i1 q x).2 ⟨g0, g⟩))
              · exact Or.inr (Or.inr g)
          · constructor
            · rintro ⟨x, g⟩
              exact ⟨x, Or.inr (Or.inl g)⟩
            · rintro ⟨x, g | g | g⟩
              · exact absurd g.2.1 hne
              · exact ⟨x, g⟩
              · exact absurd rfl ((hr g).ne_bit (p := p) (by omega))
        · rw [if_neg hb]
          obtain ⟨i1, i2⟩ := del_mem (z := z) hp hpf hpr h6
          refine ⟨fun q x => (shrink_mem q x).trans ?_, i2.trans ?_⟩
          · constructor
            · rintro (g | g | g)
              · exact ⟨fun e => hne (g.2.1.trans e), Or.inl g⟩
              · exact ⟨(hl g).ne_bit hb, Or.inr (Or.inl g)⟩
              · exact ⟨((i1 q x).1 g).1, Or.inr (Or.inr ((i1 q x).1 g).2)⟩
            · rintro ⟨g0, g | g | g⟩
              · exact Or.inl g
              · exact Or.inr (Or.inl g)
              · exact Or.inr (Or.inr ((i1 q x).2 ⟨g0, g⟩))
          · constructor
            · rintro ⟨x, g⟩
              exact ⟨x, Or.inr (Or.inr g)⟩
            · rintro ⟨x, g | g | g⟩
              · exact absurd g.2.1 hne
              · exact absurd rfl ((hl g).ne_bit (p := p) hb)
              · exact ⟨x, g⟩
    · rw [if_neg hk]
      have hno : ∀ x, ¬ (Tt.node a has v l r).Mem p x := fun x hm => by
        refine hk (cmN_cov.2 ?_)
        rcases hm with ⟨_, g, _⟩ | hm | hm
        · rw [g]; exact cov.refl p
        · exact ⟨Nat.le_of_lt (hl hm).1, (hl hm).2.1⟩
        · exact ⟨Nat.le_of_lt (hr hm).1, (hr hm).2.1⟩
      refine ⟨fun q x => ⟨fun hm => ⟨fun e => hno x (e ▸ hm), hm⟩, fun hm => hm.2⟩, ⟨fun h => (by cases h), fun ⟨x, h⟩ => absurd h (hno x)⟩⟩
end Go.Proofs.Ythnjepehiddogaa
