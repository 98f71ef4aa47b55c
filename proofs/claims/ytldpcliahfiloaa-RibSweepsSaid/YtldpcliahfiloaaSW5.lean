/-
  Several texts in one.
-/
import Derived.Test.YtldpcliahfiloaaSW1
import Derived.Handy
import Derived.WalkSpells
import Derived.WalkLawsBesides
import Derived.LoopTactic
import Derived.Deep.QuietTactic
import Derived.BigQuiet
set_option linter.unusedVariables false
set_option linter.unusedSimpArgs false
namespace Go.Proofs.Ytldpcliahfiloaa
open Go.RowKit

theorem fam_five {f : Int} (h1 : 1 ≤ f) (h2 : f ≤ 5) : f = 1 ∨ f = 2 ∨ f = 3 ∨ f = 4 ∨ f = 5 := by omega
end Go.Proofs.Ytldpcliahfiloaa
set_option linter.unusedVariables false
set_option linter.unusedSimpArgs false
namespace Go.Proofs.Ytldpcliahfiloaa
open Go.RowKit

/-- bytes as a number, the highest first -/
def beVal (l : List UInt8) : Nat := l.foldl (fun v b => v * 256 + b.toNat) 0
/-- a block of one number -/
def NumAt (w : World) (g : Nat) (v : Int) : Prop := w.heap[g]? = some (.cells #[.int .u64 v] 23 (0, 0))
theorem NumAt.c {w : World} {g : Nat} {v : Int} (h : NumAt w g v) : w.cell? ⟨g, 0, none⟩ = some (.int .u64 v) := (cell_of_row w g 0 _ _ _ h).trans rfl
theorem NumAt.set {w : World} {g : Nat} {v : Int} (h : NumAt w g v) (u : Int) : NumAt (w.setCell ⟨g, 0, none⟩ (.int .u64 u)) g u := by
  unfold NumAt at h ⊢
  simp [World.setCell, Array.getElem?_modify, h]
theorem NumAt.new (w : World) (v : Int) : NumAt (w.alloc (.cells #[.int .u64 v] 23)) w.heap.size v := heap_alloc_new w _

end Go.Proofs.Ytldpcliahfiloaa
