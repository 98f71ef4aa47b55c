/-
  Several texts in one.
-/
import Derived.Test.YtldpcliahfiloaaSW27
import Derived.Test.YtldpcliahfiloaaSW28
import Derived.Test.YtldpcliahfiloaaSW17
import Derived.Test.YtldpcliahfiloaaSW26
import Derived.StillTailTactics
import Derived.Deep.DeepCutAuto
import Derived.Laws.EntriesVeiled
set_option linter.unusedVariables false
set_option linter.unusedSimpArgs false
namespace Go.Proofs.Ytldpcliahfiloaa
open Go.RowKit Go.MapKept Go.Shelf
open Go.Lib hiding intOf

theorem grown_row (w : World) (b : Nat) (ds : Array Value) : w.grownBy (w.setRow b ds) (some b) :=
  ⟨rfl, rfl, rfl, by rw [setRow_size]; exact Nat.le_refl _, fun i h1 h2 => setRow_other w b i ds (fun e => h2 (by rw [e]))⟩
end Go.Proofs.Ytldpcliahfiloaa
set_option linter.unusedVariables false
set_option linter.unusedSimpArgs false
namespace Go.Proofs.Ytldpcliahfiloaa
open Go.RowKit Go.MapKept Go.Shelf
open Go.Lib hiding intOf

def W1 (c : AtC) (four : Bool) : List Rw := optR true 64 1 (bts (beB c.origin.toNat 1 1)) ++ optR true 64 2 (bts (pathB four c.path)) ++ optR (c.next.size == 4) 64 3 c.next
end Go.Proofs.Ytldpcliahfiloaa
set_option linter.unusedVariables false
set_option linter.unusedSimpArgs false
namespace Go.Proofs.Ytldpcliahfiloaa
open Go.RowKit Go.MapKept Go.Shelf
open Go.Lib hiding intOf

/-- a verdict -/
structure Vd where
  act : Int
  code : Nat
  sub : Nat
def Vd.ar (v : Vd) : Array Value := #[.int .i64 v.act, .int .u8 v.code, .int .u8 v.sub]
theorem OwnL.off {α : Type} {w w' : World} {base g : Nat} {e T : TypeId} {C : Nat} {F : α → List Value} {v : Value} {xs : List α} {cs : Array Value} (h : OwnL w base e C F v xs) (hg : w.grownBy w' (some g)) (hc : CellsAt w g cs T) (he : e ≠ T) : OwnL w' base e C F v xs :=
  OwnM.keep h (fun k hk => hg.block k (OwnM.lt h k hk).2 (fun e1 => by
    injection e1 with e1
    subst e1
    rcases h.2 with ⟨rfl, _⟩ | ⟨q, cap, cur, fr, rfl, _, hq, _⟩
    · simp [Value.ownBlock] at hk
    · simp [Value.ownBlock] at hk
      subst hk
      have h2 : w.heap[q]? = some (.cells cs T (0, 0)) := hc
      rw [hq] at h2
      injection h2 with h2
      injection h2 with _ h3
      exact he h3))
theorem SegsO.off {w w' : World} {base g : Nat} {T : TypeId} {v : Value} {segs : List Sg} {cs : Array Value} (h : SegsO w base v segs) (hg : w.grownBy w' (some g)) (hc : CellsAt w g cs T) (h1 : 97 ≠ T) (h2 : 30 ≠ T) : SegsO w' base v segs :=
  ⟨h.own.off hg hc h1, fun s hs => ⟨(h.as_ s hs).1.off hg hc h2, (h.as_ s hs).2⟩⟩
/-- where another variable turns, attributes stay -/
theorem AtVar.off {w w' : World} {b g : Nat} {c : AtC} {T : TypeId} {cs : Array Value} (h : AtVar w b c) (hg : w.grownBy w' (some g)) (hc : CellsAt w g cs T) (hb : b ≠ g) (h1 : 97 ≠ T) (h2 : 30 ≠ T) (h3 : 23 ≠ T) (h4 : 82 ≠ T) : AtVar w' b c := by
  obtain ⟨a, q1, q2, q3⟩ := h.x
  exact ⟨a, q1.row hg hb, { q2 with path := q2.path.off hg hc h1 h2, comms := q2.comms.off hg hc h2, exts := q2.exts.off hg hc h3, larges := q2.larges.off hg hc h4, clus := q2.clus.off hg hc h2 }, q3⟩
end Go.Proofs.Ytldpcliahfiloaa
