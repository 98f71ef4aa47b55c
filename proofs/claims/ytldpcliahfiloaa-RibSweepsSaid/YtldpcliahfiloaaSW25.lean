/-
  Several texts in one.
-/
import Derived.Test.YtldpcliahfiloaaSW24
import Derived.Deep.DeepCutAuto
set_option linter.unusedVariables false
set_option linter.unusedSimpArgs false
namespace Go.Proofs.Ytldpcliahfiloaa
open Go.RowKit Go.MapKept Go.Shelf
open Go.Lib hiding intOf

/-- segments that a call made, as they lie -/
structure SegsO (w : World) (base : Nat) (v : Value) (segs : List Sg) : Prop where
  own : OwnL w base 97 2 Sg.cs v segs
  as_ : ∀ s ∈ segs, OwnL w base 30 1 u1 (.slice s.A s.as_.length s.cap) s.as_ ∧ (∀ n ∈ s.as_, n < 4294967296) ∧ -9223372036854775808 ≤ s.kind ∧ s.kind ≤ 9223372036854775807
theorem SegsO.nil (w : World) (base : Nat) : SegsO w base (.slice none 0 0) [] := ⟨OwnL.nil _ _ _ _ _, fun s h => by cases h⟩
theorem SegsO.segs {w : World} {base : Nat} {v : Value} {segs : List Sg} (h : SegsO w base v segs) : SegsOwn w base v (segs.map Sg.c) := ⟨segs, h.own, rfl, h.as_⟩
theorem SegsO.keep {w w' : World} {base : Nat} {v : Value} {segs : List Sg} (h : SegsO w base v segs) (hk : ∀ i, base ≤ i → i < w.heap.size → w'.heap[i]? = w.heap[i]?) : SegsO w' base v segs :=
  ⟨OwnM.keep h.own (fun k e => hk k (OwnM.lt h.own k e).1 (OwnM.lt h.own k e).2), fun s hs => ⟨OwnM.keep (h.as_ s hs).1 (fun k e => hk k (OwnM.lt (h.as_ s hs).1 k e).1 (OwnM.lt (h.as_ s hs).1 k e).2), (h.as_ s hs).2⟩⟩
/-- nothing below g has turned but the block rb -/
structure Kp (V w : World) (rb g : Nat) : Prop where
  k : ∀ i, i < g → i ≠ rb → w.heap[i]? = V.heap[i]?
  s : g < w.heap.size
theorem Kp.grown {V w w' : World} {rb g : Nat} {row : Option Nat} (h : Kp V w rb g) (hg : w.grownBy w' row) (hr : ∀ k, row = some k → k = rb ∨ g ≤ k) : Kp V w' rb g :=
  ⟨fun i hi hn => (hg.block i (Nat.lt_trans hi h.s) (fun e => by
    rcases hr i e.symm with h1 | h1
    · exact hn h1
    · omega)).trans (h.k i hi hn), Nat.lt_of_lt_of_le h.s hg.size⟩
theorem Kp.below {V w w' : World} {rb g : Nat} (h : Kp V w rb g) (hg : Below w.heap.size w w') : Kp V w' rb g :=
  ⟨fun i hi hn => (hg.block i (Nat.lt_trans hi h.s)).trans (h.k i hi hn), Nat.lt_of_lt_of_le h.s hg.size⟩
theorem CellsAt.unfrz {w : World} {b : Nat} {cs : Array Value} {T : TypeId} (h : CellsAt w b cs T) (i : Nat) : w.frozen? ⟨b, i, none⟩ = false := by
  have h2 : w.heap[b]? = some (.cells cs T (0, 0)) := h
  simp only [World.frozen?, h2]
  exact Bool.and_eq_false_iff.2 (.inr (by simp))
theorem own_ne {w : World} {b b' : Nat} {e e' : TypeId} {s s' n n' : Nat} {v v' : Value} {xs xs' : List Value} (h : OwnM w b e s v n xs) (h' : OwnM w b' e' s' v' n' xs') (he : e ≠ e') : ∀ k, v.ownBlock = some k → some k ≠ v'.ownBlock := fun k hk hk' => by
  rcases h.2 with ⟨rfl, _⟩ | ⟨g, cap, cur, fr, rfl, _, hg, _⟩
  · simp [Value.ownBlock] at hk
  · rcases h'.2 with ⟨rfl, _⟩ | ⟨g', cap', cur', fr', rfl, _, hg', _⟩
    · simp [Value.ownBlock] at hk'
    · simp [Value.ownBlock] at hk hk'
      subst hk
      subst hk'
      rw [hg] at hg'
      injection hg' with hq
      injection hq with _ hq2
      exact he hq2
end Go.Proofs.Ytldpcliahfiloaa
