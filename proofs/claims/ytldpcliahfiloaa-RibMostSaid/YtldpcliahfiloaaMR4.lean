/-
  Several texts in one.
-/
import Derived.Test.YtldpcliahfiloaaMR3
set_option linter.unusedVariables false
set_option linter.unusedSimpArgs false
namespace Go.Proofs.Ytldpcliahfiloaa
open Go.RowKit Go.MapKept
open Go.Maps (Keyed)
open Go.ChangeMaps (setBlock heap_setBlock_same heap_setBlock_other)

section
variable {P : Program} {K t e : TypeId} {w w' : World} {b r : Nat} {L left : List (Value × Value)} {key : Value} {kl : Lit}
theorem pairs_same {L : List (Value × Value)} {i j : Nat} {v u : Value} (ha : L.Pairwise (fun p q => p.1 ≠ q.1)) (hi : L[i]? = some (key, u)) (hj : L[j]? = some (key, v)) : i = j := by
  obtain ⟨a1, a2⟩ := List.getElem?_eq_some_iff.1 hi
  obtain ⟨b1, b2⟩ := List.getElem?_eq_some_iff.1 hj
  rcases Nat.lt_trichotomy i j with hlt | heq | hgt
  · have := List.pairwise_iff_getElem.1 ha i j a1 b1 hlt
    rw [a2, b2] at this
    exact absurd rfl this
  · exact heq
  · have := List.pairwise_iff_getElem.1 ha j i b1 a1 hgt
    rw [a2, b2] at this
    exact absurd rfl this
/-- 'm[k] = v': where no such key was -/
theorem MapAt.update_new (h : MapAt P K w b L) (KY : Keyed P K) (ht : P.underlying t = some (.map K e)) (hkey : keyOf P K key = some kl) (hn : ∀ p ∈ L, p.1 ≠ key) (val : Value) :
    ∃ w1, (Instr.mapUpdate t (.map (some b)) key val).run P w = .ok () w1 ∧ w.grownBy w1 (some b) ∧ MapAt P K w1 b (L ++ [(key, val)]) ∧ w1.heap.size = w.heap.size := by
  obtain ⟨es, clock, hb, hs, hk, rfl⟩ := h
  rcases KY.find w hkey es.toList hk with ⟨h1, h2⟩ | ⟨j, e0, h1, h2, h3⟩
  · refine ⟨setBlock w b (.map (es.push ⟨key, val, clock⟩) (clock + 1)), ?_, setBlock_grown hb, ⟨_, _, heap_setBlock_same hb _, stamped_push hs h2, fun x hx => ?_, by simp [pairs]⟩, by simp [setBlock]⟩
    · simp [Instr.mapUpdate, run_underlying ht, MapKept.run_getObj_map hb, KY.check w false hkey, h1, MapKept.run_setObj_map _ hb, Result.andThen, setBlock]
    · simp only [Array.toList_push, List.mem_append, List.mem_singleton] at hx
      rcases hx with hx | rfl
      · exact hk x hx
      · exact ⟨kl, hkey⟩
  · exact absurd h3 (hn (e0.key, e0.val) (List.mem_map.2 ⟨e0, List.mem_of_getElem? h2, rfl⟩))
/-- .. where it was -/
theorem MapAt.update_old {j : Nat} {old : Value} (h : MapAt P K w b L) (KY : Keyed P K) (ht : P.underlying t = some (.map K e)) (hkey : keyOf P K key = some kl) (hj : L[j]? = some (key, old)) (val : Value) :
    ∃ w1, (Instr.mapUpdate t (.map (some b)) key val).run P w = .ok () w1 ∧ w.grownBy w1 (some b) ∧ MapAt P K w1 b (L.set j (key, val)) ∧ w1.heap.size = w.heap.size := by
  have ha := h.apart
  obtain ⟨es, clock, hb, hs, hk, rfl⟩ := h
  rcases KY.find w hkey es.toList hk with ⟨h1, h2⟩ | ⟨i, e0, h1, h2, h3⟩
  · simp only [pairs, List.getElem?_map, Option.map_eq_some_iff] at hj
    obtain ⟨x, hx, he⟩ := hj
    simp only [Prod.mk.injEq] at he
    exact absurd he.1 (h2 x (List.mem_of_getElem? hx))
  · have hi : (pairs es)[i]? = some (key, e0.val) := by simp [pairs, h2, h3]
    obtain rfl := pairs_same ha hi hj
    have hjs : es[i]? = some e0 := by simpa using h2
    have hkeyf : ∀ e', es[i]? = some e' → ({ e' with key := key, val := val } : MapEntry).key = e'.key := fun e' he' => by rw [hjs] at he'; cases he'; exact h3.symm
    have hst := KY.stays w hkey
    refine ⟨setBlock w b (.map (es.modify i fun e' => { e' with key := key, val := val }) clock), ?_, setBlock_grown hb, ⟨_, _, heap_setBlock_same hb _, stamped_modify hs _ _ (fun _ _ => rfl) (fun e' _ he' => hkeyf e' he'), fun x hx => ?_, ?_⟩, by simp [setBlock]⟩
    · simp [Instr.mapUpdate, run_underlying ht, MapKept.run_getObj_map hb, KY.check w false hkey, h1, hjs, h3, hst, MapKept.run_setObj_map _ hb, Result.andThen, setBlock]
    · rcases MapFrom.mem_modify hx with hx | ⟨e', _, rfl⟩
      · exact hk x hx
      · exact ⟨kl, hkey⟩
    · apply List.ext_getElem?
      intro n
      simp only [pairs, Array.toList_modify, List.getElem?_map, List.getElem?_modify, List.getElem?_set, List.length_map, Array.length_toList]
      by_cases hn : i = n
      · subst hn
        have : i < es.size := (Array.getElem?_eq_some_iff.1 hjs).1
        simp [this]
      · simp [hn]
end
end Go.Proofs.Ytldpcliahfiloaa
