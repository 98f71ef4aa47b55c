/-
  Arguments that are slices of whatever elements, opened to cells. Conditions: none of its own; plain lemmas over any program.
-/
import Derived.Test.YtkcojblflebomaaGreatOpen
import Derived.Test.YtkcojblflebomaaGreatOwn
set_option linter.unusedVariables false
set_option linter.unusedSimpArgs false
namespace Go.Proofs.YtkcojblflebomaaGreat
open Go.ChangeShapes Go.WideShapes Go.ChangeAt Go.RowKit Go.Deep

/-- a slice that came in: nil, or n elements of C cells each, each of which meets E -/
def ElemsIn (w : World) (A : Option Addr) (len cap C : Nat) (E : List Value → Prop) : Prop :=
  len ≤ cap ∧ cap ≤ maxLen ∧ (A = none → cap = 0) ∧ (0 < len → ∃ b off, A = some ⟨b, off, none⟩ ∧ b < w.heap.size ∧ ∀ i, i < len → ∃ cs, cs.length = C ∧ E cs ∧ ∀ j, j < C → w.cell? ⟨b, off + i * C + j, none⟩ = cs[j]?)
theorem ElemsIn.below {w w' : World} {A : Option Addr} {len cap C : Nat} {E : List Value → Prop} {B : Nat} (h : ElemsIn w A len cap C E) (hb : Below B w w') (hB : w.heap.size ≤ B) : ElemsIn w' A len cap C E := by
  refine ⟨h.1, h.2.1, h.2.2.1, fun hl => ?_⟩
  obtain ⟨b, off, rfl, hlt, hc⟩ := h.2.2.2 hl
  refine ⟨b, off, rfl, Nat.lt_of_lt_of_le hlt hb.size, fun i hi => ?_⟩
  obtain ⟨cs, h1, h2, h3⟩ := hc i hi
  exact ⟨cs, h1, h2, fun j hj => (hb.cell (p := ⟨b, _, none⟩) (Nat.lt_of_lt_of_le hlt hB)).trans (h3 j hj)⟩
theorem ElemsIn.mono {w : World} {A : Option Addr} {len cap C : Nat} {E E' : List Value → Prop} (h : ElemsIn w A len cap C E) (hq : ∀ cs, E cs → E' cs) : ElemsIn w A len cap C E' := by
  refine ⟨h.1, h.2.1, h.2.2.1, fun hl => ?_⟩
  obtain ⟨b, off, rfl, hlt, hc⟩ := h.2.2.2 hl
  refine ⟨b, off, rfl, hlt, fun i hi => ?_⟩
  obtain ⟨cs, h1, h2, h3⟩ := hc i hi
  exact ⟨cs, h1, hq _ h2, h3⟩
/-- its first elements -/
theorem ElemsIn.take {w : World} {A : Option Addr} {len cap C n : Nat} {E : List Value → Prop} (h : ElemsIn w A len cap C E) (hn : n ≤ len) : ElemsIn w A n cap C E := by
  refine ⟨Nat.le_trans hn h.1, h.2.1, h.2.2.1, fun hl => ?_⟩
  obtain ⟨b, off, rfl, hlt, hc⟩ := h.2.2.2 (by omega)
  exact ⟨b, off, rfl, hlt, fun i hi => hc i (by omega)⟩
theorem ElemsIn.at_ {w : World} {A : Option Addr} {len cap C i : Nat} {E : List Value → Prop} (h : ElemsIn w A len cap C E) (hi : i < len) :
    ∃ b off cs, A = some ⟨b, off, none⟩ ∧ b < w.heap.size ∧ cs.length = C ∧ E cs ∧ ∀ j, j < C → w.cell? ⟨b, off + i * C + j, none⟩ = cs[j]? := by
  obtain ⟨b, off, rfl, hlt, hc⟩ := h.2.2.2 (by omega)
  obtain ⟨cs, h1, h2, h3⟩ := hc i hi
  exact ⟨b, off, cs, rfl, hlt, h1, h2, h3⟩

section
variable {H : Type} {enc : TypeId × Value → H} {P : Program} {w : World} {held : Bool}
theorem open_elems {t e : TypeId} {C : Nat} {v : Value} {d : DataW H} {ps : List MemPlace} {b0 : Nat} (ht : P.underlying t = some (.slice e)) (hC : P.cellsOf e = C) (hpos : 0 < C)
    (hval : Value.okWide P w .any b0 t v) (h : DataW.Trod enc P w 0 (fun _ => true) held t v d ps) :
    ∃ (A : Option Addr) (len cap : Nat), v = .slice A len cap ∧ ElemsIn w A len cap C (fun cs => ∃ (n : Nat) (y : DataW H × List MemPlace), DataW.trod enc P w 0 (fun _ => true) held n e cs = some y) := by
  subst hC
  obtain ⟨A, len, cap, rfl⟩ := okWide_slice ht hval
  obtain ⟨fuel, hf⟩ := h
  refine ⟨A, len, cap, rfl, ?_⟩
  rcases open_slice ht hf with ⟨hcs, _⟩ | ⟨a, l, c, m, n, D, Pl, hcs, hb, hl, hm, hmm, hx, hi⟩
  · simp [Value.cells] at hcs
    obtain ⟨rfl, rfl, rfl⟩ := hcs
    exact ⟨Nat.le_refl _, by unfold maxLen; omega, fun _ => rfl, fun h => absurd h (by omega)⟩
  · simp [Value.cells] at hcs
    obtain ⟨rfl, rfl, rfl⟩ := hcs
    simp only [if_true] at hmm
    subst hmm
    refine ⟨hl, hm, (fun h => by cases h), fun hl0 => ?_⟩
    obtain ⟨b, off, spot⟩ := a
    obtain ⟨cs0, hc0, _⟩ := hi 0 (by omega)
    obtain ⟨_, hcl0, hat0⟩ := World.cells?_some hc0
    have h00 := hat0 0 hpos
    have hv0 : cs0[0]? = some (cs0[0]'(by omega)) := List.getElem?_eq_getElem (by omega)
    rw [hv0] at h00
    have hspot : spot = none := by simpa [Addr.add] using World.cell?_spot h00
    subst hspot
    refine ⟨b, off, rfl, ?_, fun i hil => ?_⟩
    · have := World.block_lt_of_cell? w _ h00
      simpa [Addr.add] using this
    · obtain ⟨cs', hc, ht'⟩ := hi i (by omega)
      obtain ⟨_, hcl, hat⟩ := World.cells?_some hc
      refine ⟨cs', hcl, ⟨n, _, ht'⟩, fun j hj => ?_⟩
      rw [← hat j hj, add_off, add_off]
end
end Go.Proofs.YtkcojblflebomaaGreat
