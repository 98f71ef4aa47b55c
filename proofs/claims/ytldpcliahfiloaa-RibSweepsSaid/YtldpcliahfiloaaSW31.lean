/-
  Several texts in one.
-/
import Derived.Test.YtldpcliahfiloaaSW30
import Derived.Deep.MidRow
set_option linter.unusedVariables false
set_option linter.unusedSimpArgs false
namespace Go.Proofs.Ytldpcliahfiloaa
open Go.RowKit Go.MapKept Go.Shelf
open Go.Lib hiding intOf

theorem attrs_ones (p : Atr) : p.ar.all Value.oneCell' = true := Array.all_eq_true_iff_forall_mem.2 (fun u hu => by
  simp only [Atr.ar, List.mem_toArray, List.mem_cons, List.not_mem_nil, or_false] at hu
  rcases hu with rfl | rfl | rfl | rfl | rfl | rfl | rfl | rfl | rfl | rfl | rfl | rfl | rfl | rfl | rfl | rfl <;> rfl)
theorem wpList_store_attrs {ops : Array Oper} {rest : List Oper} {op : Oper} {a : Act} {w : World} {Q : Exit → Act → World → Prop} (hgd : op.guard = none) (x y : Operand) (ho : op.op = .store 41 x y) (b : Nat) (hx : a.eval x = .pointer (some ⟨b, 0, none⟩)) (p : Atr) (hy : a.eval y = .agg p.ar) (q : Atr) (hc : CellsAt w b q.ar 41)
    (h : wpList Try.prog ops Q rest (a.put op.dst undef) (w.setRow b p.ar)) : wpList Try.prog ops Q (op :: rest) a w :=
  wpList_store_row hgd 41 x y ho b p.ar hx hy 41 q.ar hc (by rw [attrs_size]; rfl) rfl (attrs_ones p) h
theorem CellsAt.setRow' {w : World} {b : Nat} {cs : Array Value} {T : TypeId} (h : CellsAt w b cs T) (ds : Array Value) : CellsAt (w.setRow b ds) b ds T := setRow_heap w b _ _ _ _ h
theorem grown_setRow' (w : World) (b : Nat) (ds : Array Value) : w.grownBy (w.setRow b ds) (some b) :=
  ⟨rfl, rfl, rfl, by rw [setRow_size]; exact Nat.le_refl _, fun i h1 h2 => setRow_other w b i ds (fun e => h2 (by rw [e]))⟩
theorem results_attrs {fn : Func} {p : Tmp} (h : fn.results = #[.cell p 41]) (tmps : Array Value) (w : World) (g : Nat) (x : Atr) (hp : tmps.getD p undef = .pointer (some ⟨g, 0, none⟩)) (hg : CellsAt w g x.ar 41) :
    (results fn tmps).run Try.prog w = .ok x.v w := by
  obtain ⟨fs, hu⟩ := attrs_under
  exact results_cell_row h tmps w g 41 x.ar (0, 0) _ hp hg hu rfl (by rw [attrs_size]; rfl)
end Go.Proofs.Ytldpcliahfiloaa
set_option linter.unusedVariables false
set_option linter.unusedSimpArgs false
namespace Go.Proofs.Ytldpcliahfiloaa
open Go.RowKit Go.MapKept Go.Shelf
open Go.Lib hiding intOf

theorem AtO.lower' {w : World} {b b' : Nat} {a : Atr} (h : AtO w b a) (hb : b' ≤ b) : AtO w b' a :=
  { h with path := ⟨OwnM.lower h.path.own hb, fun s hs => ⟨OwnM.lower (h.path.as_ s hs).1 hb, (h.path.as_ s hs).2⟩⟩, comms := OwnM.lower h.comms hb, exts := OwnM.lower h.exts hb, larges := OwnM.lower h.larges hb, clus := OwnM.lower h.clus hb }
end Go.Proofs.Ytldpcliahfiloaa
