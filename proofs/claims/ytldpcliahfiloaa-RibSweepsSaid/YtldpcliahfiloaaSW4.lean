/-
  Several texts in one.
-/
import Derived.Test.YtldpcliahfiloaaSW3
set_option linter.unusedVariables false
set_option linter.unusedSimpArgs false
namespace Go.Proofs.Ytldpcliahfiloaa
open Go.RowKit Go.MapKept
open Go.Maps (Keyed)
open Go.ChangeMaps (setBlock heap_setBlock_same heap_setBlock_other)

section
variable {P : Program} {K t e : TypeId} {w w' : World} {b r : Nat} {L left : List (Value × Value)} {key : Value} {kl : Lit}
theorem pairs_same {L : List (Value × Value)} {i j : Nat} {v u : Value} (ha : L.Pairwise (fun p q => p.1 ≠ q.1)) (hi : L[i]? = some (key, u)) (hj : L[j]? = some (key, v)) : i = j := by
  obtain ⟨a1, a2⟩ := List.getElem?_eq_some_iff.1 hi
  obtain ⟨b1, b2⟩ := List.getElem?_eq_some_iff.1 hj
  rcases Nat.lt_trichotomy i j with hlt | heq | hgt
  · have := List.pairwise_iff_getElem.1 ha i j a1 b1 hlt
    rw [a2, b2] at this
    exact absurd rfl this
  · exact heq
  · have := List.pairwise_iff_getElem.1 ha j i b1 a1 hgt
    rw [a2, b2] at this
    exact absurd rfl this
/-- 'm[k] = v': where no such key was -/
theorem MapAt.update_new (h : MapAt P K w b L) (KY : Keyed P K) (ht : P.underlying t = some (.map K e)) (hkey : keyOf P K key = some kl) (hn : ∀ p ∈ L, p.1 ≠ key) (val : Value) :
    ∃ w1, (Instr.mapUpdate t (.map (some b)) key val).run P w = .ok () w1 ∧ w.grownBy w1 (some b) ∧ MapAt P K w1 b (L ++ [(key, val)]) ∧ w1.heap.size = w.heap.size := by
  obtain ⟨es, clock, hb, hs, hk, rfl⟩ := h
  rcases KY.find w hkey es.toList hk with ⟨h1, h2⟩ | ⟨j, e0, h1, h2, h3⟩
  · refine ⟨setBlock w b (.map (es.push ⟨key, val, clock⟩) (clock + 1)), ?_, setBlock_grown hb, ⟨_, _, heap_setBlock_same hb _, stamped_push hs h2, fun x hx => ?_, by simp [pairs]⟩, by simp [setBlock]⟩
    · simp [Instr.mapUpdate, run_underlying ht, MapKept.run_getObj_map hb, KY.check w false hkey, h1, MapKept.run_setObj_map _ hb, Result.andThen, setBlock]
    · simp only [Array.toList_push, List.mem_append, List.mem_singleton] at hx
      rcases hx with hx | rfl
      · exact hk x hx
      · exact ⟨kl, hkey⟩
  · exact absurd h3 (hn (e0.key, e0.val) (List.mem_map.2 ⟨e0, List.mem_of_getElem? h2, rfl⟩))
/-- .. where it was -/
theorem MapAt.update_old {j : Nat} {old : Value} (h : MapAt P K w b L) (KY : Keyed P K) (ht : P.underlying t = some (.map K e)) (hkey : keyOf P K key = some kl) (hj : L[j]? = some (key, old)) (val : Value) :
    ∃ w1, (Instr.mapUpdate t (.map (some b)) key val).run P w = .ok () w1 ∧ w.grownBy w1 (some b) ∧ MapAt P K w1 b (L.set j (key, val)) ∧ w1.heap.size = w.heap.size := by
  have ha := h.apart
  obtain ⟨es, clock, hb, hs, hk, rfl⟩ := h
  rcases KY.find w hkey es.toList hk with ⟨h1, h2⟩ | ⟨i, e0, h1, h2, h3⟩
  · simp only [pairs, List.getElem?_map, Option.map_eq_some_iff] at hj
    obtain ⟨x, hx, he⟩ := hj
    simp only [Prod.mk.injEq] at he
    exact absurd he.1 (h2 x (List.mem_of_getElem? hx))
  · have hi : (pairs es)[i]? = some (key, e0.val) := by simp [pairs, h2, h3]
    obtain rfl := pairs_same ha hi hj
    have hjs : es[i]? = some e0 := by simpa using h2
    have hkeyf : ∀ e', es[i]? = some e' → ({ e' with key := key, val := val } : MapEntry).key = e'.key := fun e' he' => by rw [hjs] at he'; cases he'; exact h3.symm
    have hst := KY.stays w hkey
    refine ⟨setBlock w b (.map (es.modify i fun e' => { e' with key := key, val := val }) clock), ?_, setBlock_grown hb, ⟨_, _, heap_setBlock_same hb _, stamped_modify hs _ _ (fun _ _ => rfl) (fun e' _ he' => hkeyf e' he'), fun x hx => ?_, ?_⟩, by simp [setBlock]⟩
    · simp [Instr.mapUpdate, run_underlying ht, MapKept.run_getObj_map hb, KY.check w false hkey, h1, hjs, h3, hst, MapKept.run_setObj_map _ hb, Result.andThen, setBlock]
    · rcases MapFrom.mem_modify hx with hx | ⟨e', _, rfl⟩
      · exact hk x hx
      · exact ⟨kl, hkey⟩
    · apply List.ext_getElem?
      intro n
      simp only [pairs, Array.toList_modify, List.getElem?_map, List.getElem?_modify, List.getElem?_set, List.length_map, Array.length_toList]
      by_cases hn : i = n
      · subst hn
        have : i < es.size := (Array.getElem?_eq_some_iff.1 hjs).1
        simp [this]
      · simp [hn]
/-- 'm[k]', where it is -/
theorem MapAt.lookup_some1 {j : Nat} {v z : Value} (h : MapAt P K w b L) (KY : Keyed P K) (ht : P.underlying t = some (.map K e)) (hz : (zeroValue e).run P w = .ok z w) (hkey : keyOf P K key = some kl) (hj : L[j]? = some (key, v)) :
    (Instr.lookup t (.map (some b)) key false).run P w = .ok v w := by
  have ha := h.apart
  obtain ⟨es, clock, hb, hs, hk, rfl⟩ := h
  rcases KY.find w hkey es.toList hk with ⟨h1, h2⟩ | ⟨i, e0, h1, h2, h3⟩
  · simp only [pairs, List.getElem?_map, Option.map_eq_some_iff] at hj
    obtain ⟨x, hx, he⟩ := hj
    simp only [Prod.mk.injEq] at he
    exact absurd he.1 (h2 x (List.mem_of_getElem? hx))
  · have hi : (pairs es)[i]? = some (key, e0.val) := by simp [pairs, h2, h3]
    obtain rfl := pairs_same ha hi hj
    rw [hi] at hj
    simp only [Option.some.injEq, Prod.mk.injEq, true_and] at hj
    subst hj
    simp [Instr.lookup, run_underlying ht, MapKept.run_getObj_map hb, KY.check w _ hkey, h1, Result.andThen]
theorem leftP_erase {es : Array MapEntry} {seen : Array Nat} {i : Nat} {e0 : MapEntry} (hi : es.toList[i]? = some e0) (hs : seen.contains e0.born = true) : leftP (es.eraseIdxIfInBounds i) seen = leftP es seen := by
  have hjs : i < es.size := by simpa using (List.getElem?_eq_some_iff.1 hi).1
  have hsub : (es.eraseIdxIfInBounds i).toList = es.toList.eraseIdx i := by
    unfold Array.eraseIdxIfInBounds
    rw [dif_pos hjs]
    simp
  unfold leftP
  rw [hsub]
  congr 1
  obtain ⟨h1, h2⟩ := List.getElem?_eq_some_iff.1 hi
  conv => rhs; rw [← List.take_append_drop i es.toList]
  rw [List.eraseIdx_eq_take_drop_succ, List.filter_append, List.filter_append]
  congr 1
  have hd : es.toList.drop i = e0 :: es.toList.drop (i + 1) := by rw [List.drop_eq_getElem_cons h1, h2]
  rw [hd, List.filter_cons, hs]
  rfl
/-- 'delete(m, k)' of a key that has come already -/
theorem RangeAt.delete_ {ty : TypeId} {j : Nat} {v : Value} (h : RangeAt P K w b r L left) (hne : r ≠ b) (KY : Keyed P K) (ht : P.underlying t = some (.map K e)) (hkey : keyOf P K key = some kl) (hj : L[j]? = some (key, v)) (hl : ∀ p ∈ left, p.1 ≠ key) :
    ∃ w1, (Builtin.delete_ #[t, K] ty #[.map (some b), key]).run P w = .ok (.tuple #[]) w1 ∧ w.grownBy w1 (some b) ∧ RangeAt P K w1 b r (L.eraseIdx j) left ∧ w1.heap.size = w.heap.size := by
  have ha := h.map.apart
  obtain ⟨es, clock, since, seen, c0, hb, hs, hk, rfl, hr, g1, g2, g3, rfl⟩ := h
  rcases KY.find w hkey es.toList hk with ⟨h1, h2⟩ | ⟨i, e0, h1, h2, h3⟩
  · simp only [pairs, List.getElem?_map, Option.map_eq_some_iff] at hj
    obtain ⟨x, hx, he⟩ := hj
    simp only [Prod.mk.injEq] at he
    exact absurd he.1 (h2 x (List.mem_of_getElem? hx))
  · have hi : (pairs es)[i]? = some (key, e0.val) := by simp [pairs, h2, h3]
    obtain rfl := pairs_same ha hi hj
    have hjs : i < es.size := by simpa using (List.getElem?_eq_some_iff.1 h2).1
    have hsub : (es.eraseIdxIfInBounds i).toList = es.toList.eraseIdx i := by
      unfold Array.eraseIdxIfInBounds
      rw [dif_pos hjs]
      simp
    have hseen : seen.contains e0.born = true := by
      by_cases hc : seen.contains e0.born = true
      · exact hc
      · refine absurd h3 (hl (e0.key, e0.val) ?_)
        unfold leftP
        refine List.mem_map.2 ⟨e0, List.mem_filter.2 ⟨List.mem_of_getElem? h2, ?_⟩, rfl⟩
        simpa using hc
    refine ⟨setBlock w b (.map (es.eraseIdxIfInBounds i) clock), ?_, setBlock_grown hb, ⟨_, _, since, seen, c0, heap_setBlock_same hb _, stamped_erase hs i, fun x hx => ?_, ?_, (heap_setBlock_other hb _ hne).trans hr, fun x hx => ?_, g2, g3, (leftP_erase h2 hseen).symm⟩, by simp [setBlock]⟩
    · simp [Builtin.delete_, run_underlying ht, MapKept.run_getObj_map hb, KY.check w _ hkey, h1, MapKept.run_setObj_map _ hb, Result.andThen, setBlock]
    · rw [hsub] at hx
      exact hk x ((List.eraseIdx_sublist _ _).subset hx)
    · simp only [pairs, hsub]
      rw [← Go.ChangeMaps.map_eraseIdx]
    · rw [hsub] at hx
      exact g1 x ((List.eraseIdx_sublist _ _).subset hx)
end
end Go.Proofs.Ytldpcliahfiloaa
