/-
  Several texts in one.
-/
import Derived.Test.YtldpcliahfiloaaSW1
import Derived.Deep.Slices
import Derived.Deep.Fields
import Derived.ChangeSame
import Derived.ChangeSlices
set_option linter.unusedVariables false
set_option linter.unusedSimpArgs false
namespace Go.Proofs.Ytldpcliahfiloaa
open Go.ChangeShapes Go.WideShapes Go.ChangeAt Go.RowKit Go.Deep

section
variable {H : Type} {enc : TypeId × Value → H} {P : Program} {w : World} {base : Nat} {spare : Nat → Bool} {held : Bool}
/-- a slice that came in: nil, or n elements of so many cells from an address on, each cell with what it reads as -/
def InRow (w : World) (A : Option Addr) (len cap size : Nat) (Q : Nat → Value → Prop) : Prop :=
  len ≤ cap ∧ cap ≤ maxLen ∧ (A = none → cap = 0) ∧ (0 < len → ∃ b off, A = some ⟨b, off, none⟩ ∧ b < w.heap.size ∧ ∀ i j, i < len → j < size → ∃ v, w.cell? ⟨b, off + i * size + j, none⟩ = some v ∧ Q j v)

theorem InRow.below {w w' : World} {A : Option Addr} {len cap size : Nat} {Q : Nat → Value → Prop} {B : Nat} (h : InRow w A len cap size Q) (hb : Below B w w') (hB : w.heap.size ≤ B) : InRow w' A len cap size Q := by
  refine ⟨h.1, h.2.1, h.2.2.1, fun hl => ?_⟩
  obtain ⟨b, off, rfl, hlt, hc⟩ := h.2.2.2 hl
  exact ⟨b, off, rfl, Nat.lt_of_lt_of_le hlt hb.size, fun i j hi hj => by
    obtain ⟨v, h1, h2⟩ := hc i j hi hj
    exact ⟨v, (hb.cell (p := ⟨b, _, none⟩) (Nat.lt_of_lt_of_le hlt hB)).trans h1, h2⟩⟩

theorem InRow.mono {w : World} {A : Option Addr} {len cap size : Nat} {Q Q' : Nat → Value → Prop} (h : InRow w A len cap size Q) (hq : ∀ j v, j < size → Q j v → Q' j v) : InRow w A len cap size Q' := by
  refine ⟨h.1, h.2.1, h.2.2.1, fun hl => ?_⟩
  obtain ⟨b, off, rfl, hlt, hc⟩ := h.2.2.2 hl
  exact ⟨b, off, rfl, hlt, fun i j hi hj => by
    obtain ⟨v, h1, h2⟩ := hc i j hi hj
    exact ⟨v, h1, hq j v hj h2⟩⟩
theorem InRow.at_ {w : World} {A : Option Addr} {len cap size : Nat} {Q : Nat → Value → Prop} (h : InRow w A len cap size Q) {i : Nat} (hi : i < len) :
    ∃ b off, A = some ⟨b, off, none⟩ ∧ b < w.heap.size ∧ ∀ j, j < size → ∃ v, w.cell? ⟨b, off + i * size + j, none⟩ = some v ∧ Q j v := by
  obtain ⟨b, off, rfl, hlt, hc⟩ := h.2.2.2 (by omega)
  exact ⟨b, off, rfl, hlt, fun j hj => hc i j hi hj⟩
/-- an int field's value, with its range -/
def IsI64 (v : Value) : Prop := ∃ n : Int, v = .int .i64 n ∧ -9223372036854775808 ≤ n ∧ n ≤ 9223372036854775807
def IsU64 (v : Value) : Prop := ∃ n : Int, v = .int .u64 n ∧ 0 ≤ n ∧ n < 18446744073709551616
def IsU32 (v : Value) : Prop := ∃ n : Int, v = .int .u32 n ∧ 0 ≤ n ∧ n < 4294967296
section
variable {H : Type} {enc : TypeId × Value → H} {P : Program} {w : World} {base fuel : Nat} {spare : Nat → Bool} {held : Bool} {t : TypeId} {v : Value} {x : DataW H × List MemPlace}
theorem isI64 (ht : P.underlying t = some (.int .i64)) (h : DataW.trod enc P w base spare held fuel t [v] = some x) : IsI64 v := by
  obtain ⟨n, hc, _, hw⟩ := DataW.trod_int ht h
  simp only [List.cons.injEq, and_true] at hc
  refine ⟨n, hc, ?_⟩
  simpa [Lit.wf, IntKind.min, IntKind.max, IntKind.signed, IntKind.bits] using hw
theorem isU64 (ht : P.underlying t = some (.int .u64)) (h : DataW.trod enc P w base spare held fuel t [v] = some x) : IsU64 v := by
  obtain ⟨n, hc, _, hw⟩ := DataW.trod_int ht h
  simp only [List.cons.injEq, and_true] at hc
  have hw : 0 ≤ n ∧ n ≤ 18446744073709551615 := by simpa [Lit.wf, IntKind.min, IntKind.max, IntKind.signed, IntKind.bits] using hw
  exact ⟨n, hc, hw.1, by omega⟩
theorem isU32 (ht : P.underlying t = some (.int .u32)) (h : DataW.trod enc P w base spare held fuel t [v] = some x) : IsU32 v := by
  obtain ⟨n, hc, _, hw⟩ := DataW.trod_int ht h
  simp only [List.cons.injEq, and_true] at hc
  have hw : 0 ≤ n ∧ n ≤ 4294967295 := by simpa [Lit.wf, IntKind.min, IntKind.max, IntKind.signed, IntKind.bits] using hw
  exact ⟨n, hc, hw.1, by omega⟩
end

end
end Go.Proofs.Ytldpcliahfiloaa
