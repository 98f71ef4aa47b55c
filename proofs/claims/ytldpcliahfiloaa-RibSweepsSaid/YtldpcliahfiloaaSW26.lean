/-
  Several texts in one.
-/
import Derived.Test.YtldpcliahfiloaaSW24
import Derived.Test.YtldpcliahfiloaaSW21
import Derived.Deep.MidRow
set_option linter.unusedVariables false
set_option linter.unusedSimpArgs false
namespace Go.Proofs.Ytldpcliahfiloaa
open Go.RowKit Go.MapKept Go.Shelf
open Go.Lib hiding intOf

theorem attrs_size : (Try.prog.info? 41).map (·.size) = some 16 := by kernel_rfl
theorem attrs_under : ∃ fs, Try.prog.underlying 41 = some (.struct fs) := ⟨_, Try.underlying41⟩
theorem CellsAt.range {w : World} {b : Nat} {T : TypeId} {cs : Array Value} (h : CellsAt w b cs T) : w.rangeAt b 0 cs.toList := fun j v hv => by
  rw [Nat.zero_add, h.c j]
  simpa using hv
theorem wpList_load_attrs {ops : Array Oper} {rest : List Oper} {op : Oper} {a : Act} {w : World} {Q : Exit → Act → World → Prop} (hgd : op.guard = none) (src : Operand) (ho : op.op = .load 41 src) (b : Nat) (hx : a.eval src = .pointer (some ⟨b, 0, none⟩)) (p : Atr) (hc : CellsAt w b p.ar 41)
    (h : wpList Try.prog ops Q rest (a.put op.dst p.v) w) : wpList Try.prog ops Q (op :: rest) a w := by
  obtain ⟨fs, hu⟩ := attrs_under
  exact wpList_load_mid hgd 41 src ho b 0 hx p.ar.toList _ hc.range hu rfl (by rw [attrs_size]; rfl) h
def optR (is : Bool) (f t : UInt8) (v : ByteArray) : List Rw := if is = true then [⟨f, t, v⟩] else []
theorem CellsAt.unfrozen {w : World} {b : Nat} {cs : Array Value} {T : TypeId} (h : CellsAt w b cs T) (i : Nat) : w.frozen? ⟨b, i, none⟩ = false := by
  have h2 : w.heap[b]? = some (.cells cs T (0, 0)) := h
  simp only [World.frozen?, h2]
  exact Bool.and_eq_false_iff.2 (.inr (by simp))
end Go.Proofs.Ytldpcliahfiloaa
