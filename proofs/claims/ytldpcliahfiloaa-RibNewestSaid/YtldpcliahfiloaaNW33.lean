/-
  Several texts in one.
-/
import Derived.Test.YtldpcliahfiloaaNW30
import Derived.Test.YtldpcliahfiloaaNW31
import Derived.Test.YtldpcliahfiloaaNW19
import Derived.Test.YtldpcliahfiloaaNW29
import Derived.StillTailTactics
import Derived.Deep.DeepCutAuto
set_option linter.unusedVariables false
set_option linter.unusedSimpArgs false
namespace Go.Proofs.Ytldpcliahfiloaa
open Go.RowKit Go.MapKept Go.Shelf
open Go.Lib hiding intOf

theorem grown_row (w : World) (b : Nat) (ds : Array Value) : w.grownBy (w.setRow b ds) (some b) :=
  ⟨rfl, rfl, rfl, by rw [setRow_size]; exact Nat.le_refl _, fun i h1 h2 => setRow_other w b i ds (fun e => h2 (by rw [e]))⟩
end Go.Proofs.Ytldpcliahfiloaa
set_option linter.unusedVariables false
set_option linter.unusedSimpArgs false
namespace Go.Proofs.Ytldpcliahfiloaa
open Go.RowKit Go.MapKept Go.Shelf
open Go.Lib hiding intOf

def W1 (c : AtC) (four : Bool) : List Rw := optR true 64 1 (bts (beB c.origin.toNat 1 1)) ++ optR true 64 2 (bts (pathB four c.path)) ++ optR (c.next.size == 4) 64 3 c.next
end Go.Proofs.Ytldpcliahfiloaa
