/-
  Several texts in one.
-/
import Derived.Test.YtldpcliahfiloaaGreatPW1
import Derived.Maps.RangeWalk
import Derived.Handy
import Derived.WalkSpells
import Derived.WalkLawsBesides
import Derived.LoopTactic
import Derived.Deep.QuietTactic
import Derived.BigQuiet
set_option linter.unusedVariables false
set_option linter.unusedSimpArgs false
namespace Go.Proofs.YtldpcliahfiloaaGreat
open Go.RowKit Go.MapKept
open Go.Maps (Keyed)
open Go.ChangeMaps (setBlock filter_eq_eraseIdx)

/-- what is still to come -/
def leftP (es : Array MapEntry) (seen : Array Nat) : List (Value × Value) := (es.toList.filter fun x => !seen.contains x.born).map fun x => (x.key, x.val)
/-- block r goes over the map b, which holds L; what is left is still to come -/
def RangeAt (P : Program) (K : TypeId) (w : World) (b r : Nat) (L left : List (Value × Value)) : Prop :=
  ∃ es clock since seen c0, w.heap[b]? = some (.map es clock) ∧ Stamped es clock ∧ (∀ x ∈ es.toList, ∃ l, keyOf P K x.key = some l) ∧ pairs es = L ∧
    w.heap[r]? = some (.mapIter (some b) since seen c0) ∧ (∀ x ∈ es.toList, x.born < since) ∧ since ≤ c0 ∧ since ≤ clock ∧ left = leftP es seen

section
variable {P : Program} {K t e : TypeId} {w w' : World} {b r : Nat} {L left : List (Value × Value)}
theorem RangeAt.lt (h : RangeAt P K w b r L left) : b < w.heap.size ∧ r < w.heap.size := by
  obtain ⟨es, clock, since, seen, c0, hb, _, _, _, hr, _⟩ := h
  exact ⟨(Array.getElem?_eq_some_iff.1 hb).1, (Array.getElem?_eq_some_iff.1 hr).1⟩
theorem RangeAt.keep (h : RangeAt P K w b r L left) (h1 : w'.heap[b]? = w.heap[b]?) (h2 : w'.heap[r]? = w.heap[r]?) : RangeAt P K w' b r L left := by
  obtain ⟨es, clock, since, seen, c0, hb, hs, hk, hp, hr, rest⟩ := h
  exact ⟨es, clock, since, seen, c0, h1.trans hb, hs, hk, hp, h2.trans hr, rest⟩
theorem RangeAt.grownX {X : Nat → Prop} (h : RangeAt P K w b r L left) (hg : GrownX X w w') (hb : ¬ X b) (hr : ¬ X r) : RangeAt P K w' b r L left :=
  h.keep (hg.block b h.lt.1 hb) (hg.block r h.lt.2 hr)
theorem RangeAt.map (h : RangeAt P K w b r L left) : MapAt P K w b L := by
  obtain ⟨es, clock, since, seen, c0, hb, hs, hk, hp, _⟩ := h
  exact ⟨es, clock, hb, hs, hk, hp⟩
theorem RangeAt.sub (h : RangeAt P K w b r L left) : left.Sublist L := by
  obtain ⟨es, clock, since, seen, c0, hb, hs, hk, rfl, hr, h1, h2, h3, rfl⟩ := h
  exact (List.filter_sublist).map _

/-- 'range m' -/
theorem MapAt.range (h : MapAt P K w b L) (ht : P.underlying t = some (.map K e)) :
    ∃ w', (Instr.range t (.map (some b))).run P w = .ok (.pointer (some ⟨w.heap.size, 0, none⟩)) w' ∧ RangeAt P K w' b w.heap.size L L ∧ Below w.heap.size w w' ∧ w'.heap.size = w.heap.size + 1 := by
  have hlt := h.lt
  obtain ⟨es, clock, hb, hs, hk, rfl⟩ := h
  refine ⟨_, run_range_map w t K e b es clock ht hb, ⟨es, clock, clock, #[], clock, ((MapKept.heap_alloc w _).2 b hlt).trans hb, hs, hk, rfl, (MapKept.heap_alloc w _).1, ((stamped_iff es clock).1 hs).1, Nat.le_refl _, Nat.le_refl _, ?_⟩,
    (Below.refl _ _).alloc (Nat.le_refl _) _, by simp⟩
  have : (es.toList.filter fun x => !(#[] : Array Nat).contains x.born) = es.toList := List.filter_eq_self.2 (fun _ _ => by simp)
  unfold leftP pairs
  rw [this]

/-- the step -/
theorem RangeAt.next (h : RangeAt P K w b r L left) (hne : r ≠ b) (ty : TypeId) :
    (left = [] ∧ (Instr.next (.pointer (some ⟨r, 0, none⟩)) false ty).run P w = .ok (.tuple #[.bool false]) w) ∨
    ∃ i key v w', left[i]? = some (key, v) ∧ (Instr.next (.pointer (some ⟨r, 0, none⟩)) false ty).run P w = .ok (.tuple #[.bool true, key, v]) w' ∧ RangeAt P K w' b r L (left.eraseIdx i) ∧ w.grownBy w' (some r) ∧
      w'.heap.size = w.heap.size ∧ (Instr.entry (.pointer (some ⟨r, 0, none⟩))).run P w' = .ok (.tuple #[key, v]) w' := by
  obtain ⟨es, clock, since, seen, c0, hb, hs, hk, rfl, hr, hold, hsc, hsk, rfl⟩ := h
  rcases run_next_at (P := P) w ty r b since c0 seen es clock hr hb hold hsc with ⟨h0, hrun⟩ | ⟨e, he, w1, hal, hrun⟩
  · refine Or.inl ⟨?_, hrun⟩
    unfold leftP
    rw [List.map_eq_nil_iff]
    have h1 : (leftOf es seen).toList = [] := List.eq_nil_of_length_eq_zero (by simpa using h0)
    unfold leftOf at h1
    rw [Array.toList_filter] at h1
    exact h1
  · obtain ⟨hem, hes⟩ := mem_left he
    have hst := ((stamped_iff es clock).1 hs).2.1
    have hr1 : w1.heap[r]? = some (.mapIter (some b) since seen c0) := by rcases hal with rfl | rfl <;> exact hr
    have hb1 : w1.heap[b]? = some (.map es clock) := by rcases hal with rfl | rfl <;> exact hb
    have hset := heap_set (o' := .mapIter (some b) since (seen.push e.born) clock) hr1
    have hb' : (setBlock w1 r (.mapIter (some b) since (seen.push e.born) clock)).heap[b]? = some (.map es clock) := (hset.2 b (fun e1 => hne e1.symm)).trans hb1
    have hef : e ∈ es.toList.filter fun x => !seen.contains x.born := List.mem_filter.2 ⟨hem, by rw [hes]; rfl⟩
    obtain ⟨i, hi⟩ := List.getElem?_of_mem hef
    have herase : leftP es (seen.push e.born) = (leftP es seen).eraseIdx i := by
      unfold leftP
      rw [← Go.ChangeMaps.map_eraseIdx]
      congr 1
      have h2 := filter_eq_eraseIdx (fun x : MapEntry => x.born == e.born) (es.toList.filter fun x => !seen.contains x.born) i e hi (by simp) (by
        have hn : (es.toList.filter fun x => !seen.contains x.born).Pairwise (fun x y => x.born ≠ y.born) := by
          have := List.pairwise_map.1 hst
          exact this.filter _
        exact hn.imp (fun hxy ⟨h3, h4⟩ => hxy (by rw [beq_iff_eq] at h3 h4; rw [h3, h4])))
      rw [← h2, List.filter_filter]
      refine List.filter_congr fun x _ => ?_
      rw [contains_push]
      cases seen.contains x.born <;> cases (x.born == e.born) <;> rfl
    refine Or.inr ⟨i, e.key, e.val, _, ?_, hrun, ⟨es, clock, since, seen.push e.born, clock, hb', hs, hk, rfl, hset.1, hold, hsk, hsk, herase.symm⟩, ?_, ?_, run_entry_at _ r b since seen es clock e hset.1 hb' hem hst⟩
    · unfold leftP
      rw [List.getElem?_map, hi]
      rfl
    · rcases hal with rfl | rfl <;> exact ⟨rfl, rfl, rfl, by simp [setBlock], fun j _ hj => hset.2 j (fun e1 => hj (by rw [e1]))⟩
    · rcases hal with rfl | rfl <;> simp [setBlock]
end
end Go.Proofs.YtldpcliahfiloaaGreat
set_option linter.unusedVariables false
set_option linter.unusedSimpArgs false
namespace Go.Proofs.YtldpcliahfiloaaGreat
open Go.RowKit Go.MapKept
open Go.Maps (Keyed)
open Go.ChangeMaps (setBlock heap_setBlock_same heap_setBlock_other)

section
variable {P : Program} {K t e : TypeId} {w w' : World} {b r : Nat} {L left : List (Value × Value)} {key : Value} {kl : Lit}
theorem pairs_same {L : List (Value × Value)} {i j : Nat} {v u : Value} (ha : L.Pairwise (fun p q => p.1 ≠ q.1)) (hi : L[i]? = some (key, u)) (hj : L[j]? = some (key, v)) : i = j := by
  obtain ⟨a1, a2⟩ := List.getElem?_eq_some_iff.1 hi
  obtain ⟨b1, b2⟩ := List.getElem?_eq_some_iff.1 hj
  rcases Nat.lt_trichotomy i j with hlt | heq | hgt
  · have := List.pairwise_iff_getElem.1 ha i j a1 b1 hlt
    rw [a2, b2] at this
    exact absurd rfl this
  · exact heq
  · have := List.pairwise_iff_getElem.1 ha j i b1 a1 hgt
    rw [a2, b2] at this
    exact absurd rfl this
/-- 'm[k] = v': where no such key was -/
theorem MapAt.update_new (h : MapAt P K w b L) (KY : Keyed P K) (ht : P.underlying t = some (.map K e)) (hkey : keyOf P K key = some kl) (hn : ∀ p ∈ L, p.1 ≠ key) (val : Value) :
    ∃ w1, (Instr.mapUpdate t (.map (some b)) key val).run P w = .ok () w1 ∧ w.grownBy w1 (some b) ∧ MapAt P K w1 b (L ++ [(key, val)]) ∧ w1.heap.size = w.heap.size := by
  obtain ⟨es, clock, hb, hs, hk, rfl⟩ := h
  rcases KY.find w hkey es.toList hk with ⟨h1, h2⟩ | ⟨j, e0, h1, h2, h3⟩
  · refine ⟨setBlock w b (.map (es.push ⟨key, val, clock⟩) (clock + 1)), ?_, setBlock_grown hb, ⟨_, _, heap_setBlock_same hb _, stamped_push hs h2, fun x hx => ?_, by simp [pairs]⟩, by simp [setBlock]⟩
    · simp [Instr.mapUpdate, run_underlying ht, MapKept.run_getObj_map hb, KY.check w false hkey, h1, MapKept.run_setObj_map _ hb, Result.andThen, setBlock]
    · simp only [Array.toList_push, List.mem_append, List.mem_singleton] at hx
      rcases hx with hx | rfl
      · exact hk x hx
      · exact ⟨kl, hkey⟩
  · exact absurd h3 (hn (e0.key, e0.val) (List.mem_map.2 ⟨e0, List.mem_of_getElem? h2, rfl⟩))
/-- .. where it was -/
theorem MapAt.update_old {j : Nat} {old : Value} (h : MapAt P K w b L) (KY : Keyed P K) (ht : P.underlying t = some (.map K e)) (hkey : keyOf P K key = some kl) (hj : L[j]? = some (key, old)) (val : Value) :
    ∃ w1, (Instr.mapUpdate t (.map (some b)) key val).run P w = .ok () w1 ∧ w.grownBy w1 (some b) ∧ MapAt P K w1 b (L.set j (key, val)) ∧ w1.heap.size = w.heap.size := by
  have ha := h.apart
  obtain ⟨es, clock, hb, hs, hk, rfl⟩ := h
  rcases KY.find w hkey es.toList hk with ⟨h1, h2⟩ | ⟨i, e0, h1, h2, h3⟩
  · simp only [pairs, List.getElem?_map, Option.map_eq_some_iff] at hj
    obtain ⟨x, hx, he⟩ := hj
    simp only [Prod.mk.injEq] at he
    exact absurd he.1 (h2 x (List.mem_of_getElem? hx))
  · have hi : (pairs es)[i]? = some (key, e0.val) := by simp [pairs, h2, h3]
    obtain rfl := pairs_same ha hi hj
    have hjs : es[i]? = some e0 := by simpa using h2
    have hkeyf : ∀ e', es[i]? = some e' → ({ e' with key := key, val := val } : MapEntry).key = e'.key := fun e' he' => by rw [hjs] at he'; cases he'; exact h3.symm
    have hst := KY.stays w hkey
    refine ⟨setBlock w b (.map (es.modify i fun e' => { e' with key := key, val := val }) clock), ?_, setBlock_grown hb, ⟨_, _, heap_setBlock_same hb _, stamped_modify hs _ _ (fun _ _ => rfl) (fun e' _ he' => hkeyf e' he'), fun x hx => ?_, ?_⟩, by simp [setBlock]⟩
    · simp [Instr.mapUpdate, run_underlying ht, MapKept.run_getObj_map hb, KY.check w false hkey, h1, hjs, h3, hst, MapKept.run_setObj_map _ hb, Result.andThen, setBlock]
    · rcases MapFrom.mem_modify hx with hx | ⟨e', _, rfl⟩
      · exact hk x hx
      · exact ⟨kl, hkey⟩
    · apply List.ext_getElem?
      intro n
      simp only [pairs, Array.toList_modify, List.getElem?_map, List.getElem?_modify, List.getElem?_set, List.length_map, Array.length_toList]
      by_cases hn : i = n
      · subst hn
        have : i < es.size := (Array.getElem?_eq_some_iff.1 hjs).1
        simp [this]
      · simp [hn]
/-- 'm[k]', where it is -/
theorem MapAt.lookup_some1 {j : Nat} {v z : Value} (h : MapAt P K w b L) (KY : Keyed P K) (ht : P.underlying t = some (.map K e)) (hz : (zeroValue e).run P w = .ok z w) (hkey : keyOf P K key = some kl) (hj : L[j]? = some (key, v)) :
    (Instr.lookup t (.map (some b)) key false).run P w = .ok v w := by
  have ha := h.apart
  obtain ⟨es, clock, hb, hs, hk, rfl⟩ := h
  rcases KY.find w hkey es.toList hk with ⟨h1, h2⟩ | ⟨i, e0, h1, h2, h3⟩
  · simp only [pairs, List.getElem?_map, Option.map_eq_some_iff] at hj
    obtain ⟨x, hx, he⟩ := hj
    simp only [Prod.mk.injEq] at he
    exact absurd he.1 (h2 x (List.mem_of_getElem? hx))
  · have hi : (pairs es)[i]? = some (key, e0.val) := by simp [pairs, h2, h3]
    obtain rfl := pairs_same ha hi hj
    rw [hi] at hj
    simp only [Option.some.injEq, Prod.mk.injEq, true_and] at hj
    subst hj
    simp [Instr.lookup, run_underlying ht, MapKept.run_getObj_map hb, KY.check w _ hkey, h1, Result.andThen]
theorem leftP_erase {es : Array MapEntry} {seen : Array Nat} {i : Nat} {e0 : MapEntry} (hi : es.toList[i]? = some e0) (hs : seen.contains e0.born = true) : leftP (es.eraseIdxIfInBounds i) seen = leftP es seen := by
  have hjs : i < es.size := by simpa using (List.getElem?_eq_some_iff.1 hi).1
  have hsub : (es.eraseIdxIfInBounds i).toList = es.toList.eraseIdx i := by
    unfold Array.eraseIdxIfInBounds
    rw [dif_pos hjs]
    simp
  unfold leftP
  rw [hsub]
  congr 1
  obtain ⟨h1, h2⟩ := List.getElem?_eq_some_iff.1 hi
  conv => rhs; rw [← List.take_append_drop i es.toList]
  rw [List.eraseIdx_eq_take_drop_succ, List.filter_append, List.filter_append]
  congr 1
  have hd : es.toList.drop i = e0 :: es.toList.drop (i + 1) := by rw [List.drop_eq_getElem_cons h1, h2]
  rw [hd, List.filter_cons, hs]
  rfl
/-- 'delete(m, k)' of a key that has come already -/
theorem RangeAt.delete_ {ty : TypeId} {j : Nat} {v : Value} (h : RangeAt P K w b r L left) (hne : r ≠ b) (KY : Keyed P K) (ht : P.underlying t = some (.map K e)) (hkey : keyOf P K key = some kl) (hj : L[j]? = some (key, v)) (hl : ∀ p ∈ left, p.1 ≠ key) :
    ∃ w1, (Builtin.delete_ #[t, K] ty #[.map (some b), key]).run P w = .ok (.tuple #[]) w1 ∧ w.grownBy w1 (some b) ∧ RangeAt P K w1 b r (L.eraseIdx j) left ∧ w1.heap.size = w.heap.size := by
  have ha := h.map.apart
  obtain ⟨es, clock, since, seen, c0, hb, hs, hk, rfl, hr, g1, g2, g3, rfl⟩ := h
  rcases KY.find w hkey es.toList hk with ⟨h1, h2⟩ | ⟨i, e0, h1, h2, h3⟩
  · simp only [pairs, List.getElem?_map, Option.map_eq_some_iff] at hj
    obtain ⟨x, hx, he⟩ := hj
    simp only [Prod.mk.injEq] at he
    exact absurd he.1 (h2 x (List.mem_of_getElem? hx))
  · have hi : (pairs es)[i]? = some (key, e0.val) := by simp [pairs, h2, h3]
    obtain rfl := pairs_same ha hi hj
    have hjs : i < es.size := by simpa using (List.getElem?_eq_some_iff.1 h2).1
    have hsub : (es.eraseIdxIfInBounds i).toList = es.toList.eraseIdx i := by
      unfold Array.eraseIdxIfInBounds
      rw [dif_pos hjs]
      simp
    have hseen : seen.contains e0.born = true := by
      by_cases hc : seen.contains e0.born = true
      · exact hc
      · refine absurd h3 (hl (e0.key, e0.val) ?_)
        unfold leftP
        refine List.mem_map.2 ⟨e0, List.mem_filter.2 ⟨List.mem_of_getElem? h2, ?_⟩, rfl⟩
        simpa using hc
    refine ⟨setBlock w b (.map (es.eraseIdxIfInBounds i) clock), ?_, setBlock_grown hb, ⟨_, _, since, seen, c0, heap_setBlock_same hb _, stamped_erase hs i, fun x hx => ?_, ?_, (heap_setBlock_other hb _ hne).trans hr, fun x hx => ?_, g2, g3, (leftP_erase h2 hseen).symm⟩, by simp [setBlock]⟩
    · simp [Builtin.delete_, run_underlying ht, MapKept.run_getObj_map hb, KY.check w _ hkey, h1, MapKept.run_setObj_map _ hb, Result.andThen, setBlock]
    · rw [hsub] at hx
      exact hk x ((List.eraseIdx_sublist _ _).subset hx)
    · simp only [pairs, hsub]
      rw [← Go.ChangeMaps.map_eraseIdx]
    · rw [hsub] at hx
      exact g1 x ((List.eraseIdx_sublist _ _).subset hx)
end
end Go.Proofs.YtldpcliahfiloaaGreat
set_option linter.unusedVariables false
set_option linter.unusedSimpArgs false
namespace Go.Proofs.YtldpcliahfiloaaGreat
open Go.RowKit

theorem fam_five {f : Int} (h1 : 1 ≤ f) (h2 : f ≤ 5) : f = 1 ∨ f = 2 ∨ f = 3 ∨ f = 4 ∨ f = 5 := by omega
end Go.Proofs.YtldpcliahfiloaaGreat
set_option linter.unusedVariables false
set_option linter.unusedSimpArgs false
namespace Go.Proofs.YtldpcliahfiloaaGreat
open Go.RowKit

/-- bytes as a number, the highest first -/
def beVal (l : List UInt8) : Nat := l.foldl (fun v b => v * 256 + b.toNat) 0
/-- a block of one number -/
def NumAt (w : World) (g : Nat) (v : Int) : Prop := w.heap[g]? = some (.cells #[.int .u64 v] 30 (0, 0))
theorem NumAt.c {w : World} {g : Nat} {v : Int} (h : NumAt w g v) : w.cell? ⟨g, 0, none⟩ = some (.int .u64 v) := (cell_of_row w g 0 _ _ _ h).trans rfl
theorem NumAt.set {w : World} {g : Nat} {v : Int} (h : NumAt w g v) (u : Int) : NumAt (w.setCell ⟨g, 0, none⟩ (.int .u64 u)) g u := by
  unfold NumAt at h ⊢
  simp [World.setCell, Array.getElem?_modify, h]
theorem NumAt.new (w : World) (v : Int) : NumAt (w.alloc (.cells #[.int .u64 v] 30)) w.heap.size v := heap_alloc_new w _

end Go.Proofs.YtldpcliahfiloaaGreat
