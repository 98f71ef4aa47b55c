/-
  Several texts in one.
-/
import Derived.Test.YtojiieghjhjoaaaGreatMY14
import Derived.StillTailTactics
import Derived.Deep.DeepCutAuto
import Derived.Laws.EntriesVeiled
import Derived.Deep.MidRow
set_option linter.unusedVariables false
set_option linter.unusedSimpArgs false
namespace Go.Proofs.YtojiieghjhjoaaaGreat
open Go.RowKit Go.MapKept Go.Shelf
open Go.Lib hiding intOf

def wordsB (l : List Nat) : List UInt8 := l.flatMap fun n => beB n 4 4
def aggB (four : Bool) (n : Nat) : List UInt8 := if four = true then beB n 4 4 else if n ≤ 65535 then beB n 2 2 else beB 23456 2 2
def W1 (c : AtC) (four : Bool) : List Rw := optR true 64 1 (bts (beB c.origin.toNat 1 1)) ++ optR true 64 2 (bts (pathB four c.path)) ++ optR (c.next.size == 4) 64 3 c.next
def W2 (c : AtC) : List Rw := optR c.hasMed 128 4 (bts (beB c.med 4 4)) ++ optR c.hasPref 64 5 (bts (beB c.pref 4 4)) ++ optR c.atomic 64 6 (bts [])
def W3 (c : AtC) (four : Bool) : List Rw := optR (decide (0 < c.aggAs)) 192 7 (bts (aggB four c.aggAs ++ beB c.aggId 4 4)) ++ optR (decide (0 < c.comms.length)) 192 8 (bts (wordsB c.comms)) ++ optR c.hasOrig 128 9 (bts (beB c.orig 4 4))
end Go.Proofs.YtojiieghjhjoaaaGreat
set_option linter.unusedVariables false
set_option linter.unusedSimpArgs false
namespace Go.Proofs.YtojiieghjhjoaaaGreat
open Go.RowKit Go.MapKept Go.Shelf
open Go.Lib hiding intOf

/-- a verdict -/
structure Vd where
  act : Int
  code : Nat
  sub : Nat
def Vd.ar (v : Vd) : Array Value := #[.int .i64 v.act, .int .u8 v.code, .int .u8 v.sub]
theorem OwnL.off {α : Type} {w w' : World} {base g : Nat} {e T : TypeId} {C : Nat} {F : α → List Value} {v : Value} {xs : List α} {cs : Array Value} (h : OwnL w base e C F v xs) (hg : w.grownBy w' (some g)) (hc : CellsAt w g cs T) (he : e ≠ T) : OwnL w' base e C F v xs :=
  OwnM.keep h (fun k hk => hg.block k (OwnM.lt h k hk).2 (fun e1 => by
    injection e1 with e1
    subst e1
    rcases h.2 with ⟨rfl, _⟩ | ⟨q, cap, cur, fr, rfl, _, hq, _⟩
    · simp [Value.ownBlock] at hk
    · simp [Value.ownBlock] at hk
      subst hk
      have h2 : w.heap[q]? = some (.cells cs T (0, 0)) := hc
      rw [hq] at h2
      injection h2 with h2
      injection h2 with _ h3
      exact he h3))
theorem SegsO.off {w w' : World} {base g : Nat} {T : TypeId} {v : Value} {segs : List Sg} {cs : Array Value} (h : SegsO w base v segs) (hg : w.grownBy w' (some g)) (hc : CellsAt w g cs T) (h1 : 67 ≠ T) (h2 : 22 ≠ T) : SegsO w' base v segs :=
  ⟨h.own.off hg hc h1, fun s hs => ⟨(h.as_ s hs).1.off hg hc h2, (h.as_ s hs).2⟩⟩
/-- where another variable turns, attributes stay -/
theorem AtVar.off {w w' : World} {b g : Nat} {c : AtC} {T : TypeId} {cs : Array Value} (h : AtVar w b c) (hg : w.grownBy w' (some g)) (hc : CellsAt w g cs T) (hb : b ≠ g) (h1 : 67 ≠ T) (h2 : 22 ≠ T) (h3 : 25 ≠ T) (h4 : 81 ≠ T) : AtVar w' b c := by
  obtain ⟨a, q1, q2, q3⟩ := h.x
  exact ⟨a, q1.row hg hb, { q2 with path := q2.path.off hg hc h1 h2, comms := q2.comms.off hg hc h2, exts := q2.exts.off hg hc h3, larges := q2.larges.off hg hc h4, clus := q2.clus.off hg hc h2 }, q3⟩
end Go.Proofs.YtojiieghjhjoaaaGreat
set_option linter.unusedVariables false
set_option linter.unusedSimpArgs false
namespace Go.Proofs.YtojiieghjhjoaaaGreat
open Go.RowKit Go.MapKept Go.Shelf
open Go.Lib hiding intOf

theorem attrs_ones (p : Atr) : p.ar.all Value.oneCell' = true := Array.all_eq_true_iff_forall_mem.2 (fun u hu => by
  simp only [Atr.ar, List.mem_toArray, List.mem_cons, List.not_mem_nil, or_false] at hu
  rcases hu with rfl | rfl | rfl | rfl | rfl | rfl | rfl | rfl | rfl | rfl | rfl | rfl | rfl | rfl | rfl | rfl <;> rfl)
theorem wpList_store_attrs {ops : Array Oper} {rest : List Oper} {op : Oper} {a : Act} {w : World} {Q : Exit → Act → World → Prop} (hgd : op.guard = none) (x y : Operand) (ho : op.op = .store 33 x y) (b : Nat) (hx : a.eval x = .pointer (some ⟨b, 0, none⟩)) (p : Atr) (hy : a.eval y = .agg p.ar) (q : Atr) (hc : CellsAt w b q.ar 33)
    (h : wpList Tryz.prog ops Q rest (a.put op.dst undef) (w.setRow b p.ar)) : wpList Tryz.prog ops Q (op :: rest) a w :=
  wpList_store_row hgd 33 x y ho b p.ar hx hy 33 q.ar hc (by rw [attrs_size]; rfl) rfl (attrs_ones p) h
theorem CellsAt.setRow' {w : World} {b : Nat} {cs : Array Value} {T : TypeId} (h : CellsAt w b cs T) (ds : Array Value) : CellsAt (w.setRow b ds) b ds T := setRow_heap w b _ _ _ _ h
theorem grown_setRow' (w : World) (b : Nat) (ds : Array Value) : w.grownBy (w.setRow b ds) (some b) :=
  ⟨rfl, rfl, rfl, by rw [setRow_size]; exact Nat.le_refl _, fun i h1 h2 => setRow_other w b i ds (fun e => h2 (by rw [e]))⟩
theorem results_attrs {fn : Func} {p : Tmp} (h : fn.results = #[.cell p 33]) (tmps : Array Value) (w : World) (g : Nat) (x : Atr) (hp : tmps.getD p undef = .pointer (some ⟨g, 0, none⟩)) (hg : CellsAt w g x.ar 33) :
    (results fn tmps).run Tryz.prog w = .ok x.v w := by
  obtain ⟨fs, hu⟩ := attrs_under
  exact results_cell_row h tmps w g 33 x.ar (0, 0) _ hp hg hu rfl (by rw [attrs_size]; rfl)
theorem rd_none (w : World) (C : Nat) : Rd w none C [] := fun h => absurd h (by simp)
end Go.Proofs.YtojiieghjhjoaaaGreat
