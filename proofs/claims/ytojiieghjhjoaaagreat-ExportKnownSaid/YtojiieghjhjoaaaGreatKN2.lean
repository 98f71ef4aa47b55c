/-
  Several texts in one.
-/
import Derived.Test.YtojiieghjhjoaaaGreatKN1
import Derived.Maps.RangeWalk
import Derived.Deep.Slices
import Derived.Deep.Fields
import Derived.ChangeSame
import Derived.ChangeSlices
set_option linter.unusedVariables false
set_option linter.unusedSimpArgs false
namespace Go.Proofs.YtojiieghjhjoaaaGreat
open Go.RowKit Go.MapKept
open Go.Maps (Keyed)
open Go.ChangeMaps (setBlock filter_eq_eraseIdx)

/-- what is still to come -/
def leftP (es : Array MapEntry) (seen : Array Nat) : List (Value × Value) := (es.toList.filter fun x => !seen.contains x.born).map fun x => (x.key, x.val)
/-- block r goes over the map b, which holds L; what is left is still to come -/
def RangeAt (P : Program) (K : TypeId) (w : World) (b r : Nat) (L left : List (Value × Value)) : Prop :=
  ∃ es clock since seen c0, w.heap[b]? = some (.map es clock) ∧ Stamped es clock ∧ (∀ x ∈ es.toList, ∃ l, keyOf P K x.key = some l) ∧ pairs es = L ∧
    w.heap[r]? = some (.mapIter (some b) since seen c0) ∧ (∀ x ∈ es.toList, x.born < since) ∧ since ≤ c0 ∧ since ≤ clock ∧ left = leftP es seen

section
variable {P : Program} {K t e : TypeId} {w w' : World} {b r : Nat} {L left : List (Value × Value)}
theorem RangeAt.lt (h : RangeAt P K w b r L left) : b < w.heap.size ∧ r < w.heap.size := by
  obtain ⟨es, clock, since, seen, c0, hb, _, _, _, hr, _⟩ := h
  exact ⟨(Array.getElem?_eq_some_iff.1 hb).1, (Array.getElem?_eq_some_iff.1 hr).1⟩
theorem RangeAt.keep (h : RangeAt P K w b r L left) (h1 : w'.heap[b]? = w.heap[b]?) (h2 : w'.heap[r]? = w.heap[r]?) : RangeAt P K w' b r L left := by
  obtain ⟨es, clock, since, seen, c0, hb, hs, hk, hp, hr, rest⟩ := h
  exact ⟨es, clock, since, seen, c0, h1.trans hb, hs, hk, hp, h2.trans hr, rest⟩
theorem RangeAt.map (h : RangeAt P K w b r L left) : MapAt P K w b L := by
  obtain ⟨es, clock, since, seen, c0, hb, hs, hk, hp, _⟩ := h
  exact ⟨es, clock, hb, hs, hk, hp⟩
theorem RangeAt.sub (h : RangeAt P K w b r L left) : left.Sublist L := by
  obtain ⟨es, clock, since, seen, c0, hb, hs, hk, rfl, hr, h1, h2, h3, rfl⟩ := h
  exact (List.filter_sublist).map _

/-- 'range m' -/
theorem MapAt.range (h : MapAt P K w b L) (ht : P.underlying t = some (.map K e)) :
    ∃ w', (Instr.range t (.map (some b))).run P w = .ok (.pointer (some ⟨w.heap.size, 0, none⟩)) w' ∧ RangeAt P K w' b w.heap.size L L ∧ Below w.heap.size w w' ∧ w'.heap.size = w.heap.size + 1 := by
  have hlt := h.lt
  obtain ⟨es, clock, hb, hs, hk, rfl⟩ := h
  refine ⟨_, run_range_map w t K e b es clock ht hb, ⟨es, clock, clock, #[], clock, ((MapKept.heap_alloc w _).2 b hlt).trans hb, hs, hk, rfl, (MapKept.heap_alloc w _).1, ((stamped_iff es clock).1 hs).1, Nat.le_refl _, Nat.le_refl _, ?_⟩,
    (Below.refl _ _).alloc (Nat.le_refl _) _, by simp⟩
  have : (es.toList.filter fun x => !(#[] : Array Nat).contains x.born) = es.toList := List.filter_eq_self.2 (fun _ _ => by simp)
  unfold leftP pairs
  rw [this]

/-- the step -/
theorem RangeAt.next (h : RangeAt P K w b r L left) (hne : r ≠ b) (ty : TypeId) :
    (left = [] ∧ (Instr.next (.pointer (some ⟨r, 0, none⟩)) false ty).run P w = .ok (.tuple #[.bool false]) w) ∨
    ∃ i key v w', left[i]? = some (key, v) ∧ (Instr.next (.pointer (some ⟨r, 0, none⟩)) false ty).run P w = .ok (.tuple #[.bool true, key, v]) w' ∧ RangeAt P K w' b r L (left.eraseIdx i) ∧ w.grownBy w' (some r) ∧
      w'.heap.size = w.heap.size ∧ (Instr.entry (.pointer (some ⟨r, 0, none⟩))).run P w' = .ok (.tuple #[key, v]) w' := by
  obtain ⟨es, clock, since, seen, c0, hb, hs, hk, rfl, hr, hold, hsc, hsk, rfl⟩ := h
  rcases run_next_at (P := P) w ty r b since c0 seen es clock hr hb hold hsc with ⟨h0, hrun⟩ | ⟨e, he, w1, hal, hrun⟩
  · refine Or.inl ⟨?_, hrun⟩
    unfold leftP
    rw [List.map_eq_nil_iff]
    have h1 : (leftOf es seen).toList = [] := List.eq_nil_of_length_eq_zero (by simpa using h0)
    unfold leftOf at h1
    rw [Array.toList_filter] at h1
    exact h1
  · obtain ⟨hem, hes⟩ := mem_left he
    have hst := ((stamped_iff es clock).1 hs).2.1
    have hr1 : w1.heap[r]? = some (.mapIter (some b) since seen c0) := by rcases hal with rfl | rfl <;> exact hr
    have hb1 : w1.heap[b]? = some (.map es clock) := by rcases hal with rfl | rfl <;> exact hb
    have hset := heap_set (o' := .mapIter (some b) since (seen.push e.born) clock) hr1
    have hb' : (setBlock w1 r (.mapIter (some b) since (seen.push e.born) clock)).heap[b]? = some (.map es clock) := (hset.2 b (fun e1 => hne e1.symm)).trans hb1
    have hef : e ∈ es.toList.filter fun x => !seen.contains x.born := List.mem_filter.2 ⟨hem, by rw [hes]; rfl⟩
    obtain ⟨i, hi⟩ := List.getElem?_of_mem hef
    have herase : leftP es (seen.push e.born) = (leftP es seen).eraseIdx i := by
      unfold leftP
      rw [← Go.ChangeMaps.map_eraseIdx]
      congr 1
      have h2 := filter_eq_eraseIdx (fun x : MapEntry => x.born == e.born) (es.toList.filter fun x => !seen.contains x.born) i e hi (by simp) (by
        have hn : (es.toList.filter fun x => !seen.contains x.born).Pairwise (fun x y => x.born ≠ y.born) := by
          have := List.pairwise_map.1 hst
          exact this.filter _
        exact hn.imp (fun hxy ⟨h3, h4⟩ => hxy (by rw [beq_iff_eq] at h3 h4; rw [h3, h4])))
      rw [← h2, List.filter_filter]
      refine List.filter_congr fun x _ => ?_
      rw [contains_push]
      cases seen.contains x.born <;> cases (x.born == e.born) <;> rfl
    refine Or.inr ⟨i, e.key, e.val, _, ?_, hrun, ⟨es, clock, since, seen.push e.born, clock, hb', hs, hk, rfl, hset.1, hold, hsk, hsk, herase.symm⟩, ?_, ?_, run_entry_at _ r b since seen es clock e hset.1 hb' hem hst⟩
    · unfold leftP
      rw [List.getElem?_map, hi]
      rfl
    · rcases hal with rfl | rfl <;> exact ⟨rfl, rfl, rfl, by simp [setBlock], fun j _ hj => hset.2 j (fun e1 => hj (by rw [e1]))⟩
    · rcases hal with rfl | rfl <;> simp [setBlock]
end
end Go.Proofs.YtojiieghjhjoaaaGreat
set_option linter.unusedVariables false
set_option linter.unusedSimpArgs false
namespace Go.Proofs.YtojiieghjhjoaaaGreat
open Go.ChangeShapes Go.WideShapes Go.ChangeAt Go.RowKit Go.Deep

section
variable {H : Type} {enc : TypeId × Value → H} {P : Program} {w : World} {base : Nat} {spare : Nat → Bool} {held : Bool}
/-- a slice that came in: nil, or n elements of so many cells from an address on, each cell with what it reads as -/
def InRow (w : World) (A : Option Addr) (len cap size : Nat) (Q : Nat → Value → Prop) : Prop :=
  len ≤ cap ∧ cap ≤ maxLen ∧ (A = none → cap = 0) ∧ (0 < len → ∃ b off, A = some ⟨b, off, none⟩ ∧ b < w.heap.size ∧ ∀ i j, i < len → j < size → ∃ v, w.cell? ⟨b, off + i * size + j, none⟩ = some v ∧ Q j v)

theorem InRow.below {w w' : World} {A : Option Addr} {len cap size : Nat} {Q : Nat → Value → Prop} {B : Nat} (h : InRow w A len cap size Q) (hb : Below B w w') (hB : w.heap.size ≤ B) : InRow w' A len cap size Q := by
  refine ⟨h.1, h.2.1, h.2.2.1, fun hl => ?_⟩
  obtain ⟨b, off, rfl, hlt, hc⟩ := h.2.2.2 hl
  exact ⟨b, off, rfl, Nat.lt_of_lt_of_le hlt hb.size, fun i j hi hj => by
    obtain ⟨v, h1, h2⟩ := hc i j hi hj
    exact ⟨v, (hb.cell (p := ⟨b, _, none⟩) (Nat.lt_of_lt_of_le hlt hB)).trans h1, h2⟩⟩

theorem InRow.mono {w : World} {A : Option Addr} {len cap size : Nat} {Q Q' : Nat → Value → Prop} (h : InRow w A len cap size Q) (hq : ∀ j v, j < size → Q j v → Q' j v) : InRow w A len cap size Q' := by
  refine ⟨h.1, h.2.1, h.2.2.1, fun hl => ?_⟩
  obtain ⟨b, off, rfl, hlt, hc⟩ := h.2.2.2 hl
  exact ⟨b, off, rfl, hlt, fun i j hi hj => by
    obtain ⟨v, h1, h2⟩ := hc i j hi hj
    exact ⟨v, h1, hq j v hj h2⟩⟩
theorem InRow.at_ {w : World} {A : Option Addr} {len cap size : Nat} {Q : Nat → Value → Prop} (h : InRow w A len cap size Q) {i : Nat} (hi : i < len) :
    ∃ b off, A = some ⟨b, off, none⟩ ∧ b < w.heap.size ∧ ∀ j, j < size → ∃ v, w.cell? ⟨b, off + i * size + j, none⟩ = some v ∧ Q j v := by
  obtain ⟨b, off, rfl, hlt, hc⟩ := h.2.2.2 (by omega)
  exact ⟨b, off, rfl, hlt, fun j hj => hc i j hi hj⟩
section
variable {H : Type} {enc : TypeId × Value → H} {P : Program} {w : World} {base fuel : Nat} {spare : Nat → Bool} {held : Bool} {t : TypeId} {v : Value} {x : DataW H × List MemPlace}
end

end
end Go.Proofs.YtojiieghjhjoaaaGreat
