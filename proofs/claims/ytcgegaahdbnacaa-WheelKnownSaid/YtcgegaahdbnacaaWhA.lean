/-
  Timers: their order, a strict one; lists in this order. Conditions: none. Plain Lean, no program in sight.
-/
import Derived.Test.YtcgegaahdbnacaaBase
set_option linter.unusedVariables false
set_option linter.unusedSimpArgs false
namespace Go.Proofs.Ytcgegaahdbnacaa
open Go.Op (bytesLess)

theorem bl_irrefl : ∀ l : List UInt8, bytesLess l l = false
  | [] => rfl
  | a :: x => by simp [bytesLess, bl_irrefl x]
theorem bl_trans : ∀ a b c : List UInt8, bytesLess a b = true → bytesLess b c = true → bytesLess a c = true
  | _, [], _, h, _ => by simp [bytesLess] at h
  | _, _ :: _, [], _, h => by simp [bytesLess] at h
  | [], _ :: _, _ :: _, _, _ => by simp [bytesLess]
  | a :: x, b :: y, c :: z, h1, h2 => by
    simp only [bytesLess, Bool.or_eq_true, Bool.and_eq_true, decide_eq_true_eq, beq_iff_eq] at h1 h2 ⊢
    rcases h1 with h1 | ⟨rfl, h1⟩
    · rcases h2 with h2 | ⟨rfl, h2⟩
      · exact Or.inl (UInt8.lt_trans h1 h2)
      · exact Or.inl h1
    · rcases h2 with h2 | ⟨rfl, h2⟩
      · exact Or.inl h2
      · exact Or.inr ⟨rfl, bl_trans _ _ _ h1 h2⟩
theorem bl_total : ∀ a b : List UInt8, bytesLess a b = true ∨ a = b ∨ bytesLess b a = true
  | [], [] => Or.inr (Or.inl rfl)
  | [], _ :: _ => Or.inl (by simp [bytesLess])
  | _ :: _, [] => Or.inr (Or.inr (by simp [bytesLess]))
  | a :: x, b :: y => by
    simp only [bytesLess, Bool.or_eq_true, Bool.and_eq_true, decide_eq_true_eq, beq_iff_eq, List.cons.injEq]
    rcases Nat.lt_trichotomy a.toNat b.toNat with h | h | h
    · exact Or.inl (Or.inl (UInt8.lt_iff_toNat_lt.2 h))
    · have h := UInt8.toNat_inj.1 h
      subst h
      rcases bl_total x y with h | h | h
      · exact Or.inl (Or.inr ⟨rfl, h⟩)
      · exact Or.inr (Or.inl ⟨rfl, h⟩)
      · exact Or.inr (Or.inr (Or.inr ⟨rfl, h⟩))
    · exact Or.inr (Or.inr (Or.inl (UInt8.lt_iff_toNat_lt.2 h)))
theorem bl_asymm {a b : List UInt8} (h : bytesLess a b = true) : bytesLess b a = false := by
  cases hb : bytesLess b a with
  | false => rfl
  | true => have := bl_trans _ _ _ h hb; rw [bl_irrefl] at this; cases this

/-- a timer's key -/
structure WK where
  kind : Int
  peer : ByteArray
  fam : Int
/-- a timer: when, whose -/
structure Tm where
  at_ : Nat
  k : WK
def tlt (a b : Tm) : Bool :=
  decide (a.at_ < b.at_) || (decide (a.at_ = b.at_) && (decide (a.k.kind < b.k.kind) || (decide (a.k.kind = b.k.kind) && (bytesLess a.k.peer.toList b.k.peer.toList || (a.k.peer.toList == b.k.peer.toList && decide (a.k.fam < b.k.fam))))))
theorem tlt_irrefl (a : Tm) : tlt a a = false := by simp [tlt, bl_irrefl]
theorem tlt_trans {a b c : Tm} (h1 : tlt a b = true) (h2 : tlt b c = true) : tlt a c = true := by
  simp only [tlt, Bool.or_eq_true, Bool.and_eq_true, decide_eq_true_eq, beq_iff_eq] at h1 h2 ⊢
  rcases h1 with h1 | ⟨e1, h1⟩
  · rcases h2 with h2 | ⟨e2, h2⟩ <;> exact Or.inl (by omega)
  rcases h2 with h2 | ⟨e2, h2⟩
  · exact Or.inl (by omega)
  refine Or.inr ⟨by omega, ?_⟩
  rcases h1 with h1 | ⟨f1, h1⟩
  · rcases h2 with h2 | ⟨f2, h2⟩ <;> exact Or.inl (by omega)
  rcases h2 with h2 | ⟨f2, h2⟩
  · exact Or.inl (by omega)
  refine Or.inr ⟨by omega, ?_⟩
  rcases h1 with h1 | ⟨g1, h1⟩
  · rcases h2 with h2 | ⟨g2, h2⟩
    · exact Or.inl (bl_trans _ _ _ h1 h2)
    · exact Or.inl (g2 ▸ h1)
  rcases h2 with h2 | ⟨g2, h2⟩
  · exact Or.inl (g1 ▸ h2)
  · exact Or.inr ⟨g1.trans g2, by omega⟩
theorem tlt_asymm {a b : Tm} (h : tlt a b = true) : tlt b a = false := by
  cases hb : tlt b a with
  | false => rfl
  | true => have := tlt_trans h hb; rw [tlt_irrefl] at this; cases this
theorem toList_inj {s u : ByteArray} (e : s.toList = u.toList) : s = u := by
  rw [ByteArray.toList_eq, ByteArray.toList_eq] at e
  exact ByteArray.ext (Array.ext' e)
theorem tlt_total (a b : Tm) : tlt a b = true ∨ a = b ∨ tlt b a = true := by
  simp only [tlt, Bool.or_eq_true, Bool.and_eq_true, decide_eq_true_eq, beq_iff_eq]
  rcases Nat.lt_trichotomy a.at_ b.at_ with h | h1 | h
  · exact Or.inl (Or.inl h)
  · rcases Int.lt_trichotomy a.k.kind b.k.kind with h | h2 | h
    · exact Or.inl (Or.inr ⟨h1, Or.inl h⟩)
    · rcases bl_total a.k.peer.toList b.k.peer.toList with h | h3 | h
      · exact Or.inl (Or.inr ⟨h1, Or.inr ⟨h2, Or.inl h⟩⟩)
      · rcases Int.lt_trichotomy a.k.fam b.k.fam with h | h4 | h
        · exact Or.inl (Or.inr ⟨h1, Or.inr ⟨h2, Or.inr ⟨h3, h⟩⟩⟩)
        · refine Or.inr (Or.inl ?_)
          obtain ⟨x, ⟨p, q, r⟩⟩ := a
          obtain ⟨x', ⟨p', q', r'⟩⟩ := b
          simp only at h1 h2 h3 h4
          rw [h1, h2, toList_inj h3, h4]
        · exact Or.inr (Or.inr (Or.inr ⟨h1.symm, Or.inr ⟨h2.symm, Or.inr ⟨h3.symm, h⟩⟩⟩))
      · exact Or.inr (Or.inr (Or.inr ⟨h1.symm, Or.inr ⟨h2.symm, Or.inl h⟩⟩))
    · exact Or.inr (Or.inr (Or.inr ⟨h1.symm, Or.inl h⟩))
  · exact Or.inr (Or.inr (Or.inl h))

/-- in order, each once -/
def Ord (l : List Tm) : Prop := l.Pairwise fun a b => tlt a b = true
theorem Ord.uniq : ∀ {l m : List Tm}, Ord l → Ord m → l.Perm m → l = m
  | [], m, _, _, h => h.nil_eq
  | a :: l, [], _, _, h => by have := h.length_eq; simp at this
  | a :: l, b :: m, hl, hm, h => by
    unfold Ord at hl hm
    obtain ⟨h1, h2⟩ := List.pairwise_cons.1 hl
    obtain ⟨h3, h4⟩ := List.pairwise_cons.1 hm
    have hab : a = b := by
      have ha : a ∈ b :: m := h.mem_iff.1 (List.mem_cons_self ..)
      have hb : b ∈ a :: l := h.mem_iff.2 (List.mem_cons_self ..)
      rcases List.mem_cons.1 ha with e | ha
      · exact e
      rcases List.mem_cons.1 hb with e | hb
      · exact e.symm
      have x1 := h1 b hb
      have x2 := h3 a ha
      rw [tlt_asymm x1] at x2
      cases x2
    subst hab
    rw [Ord.uniq h2 h4 ((List.perm_cons a).1 h)]
theorem Ord.sub {l m : List Tm} (h : Ord m) (hs : l.Sublist m) : Ord l := List.Pairwise.sublist hs h
theorem Ord.nil : Ord [] := List.Pairwise.nil
end Go.Proofs.Ytcgegaahdbnacaa
