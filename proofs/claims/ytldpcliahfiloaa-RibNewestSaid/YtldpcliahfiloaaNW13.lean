/-
  Several texts in one.
-/
import Derived.Test.YtldpcliahfiloaaNW5
import Derived.Test.YtldpcliahfiloaaNW1
import Derived.Handy
import Derived.WalkSpells
import Derived.WalkLawsBesides
import Derived.LoopTactic
import Derived.Deep.QuietTactic
import Derived.BigQuiet
import Derived.Test.YtldpcliahfiloaaNW8
import Derived.Test.YtldpcliahfiloaaNW10
import Derived.Test.YtldpcliahfiloaaNW12
import Derived.Deep.RegionHeld3
set_option linter.unusedVariables false
set_option linter.unusedSimpArgs false
namespace Go.Proofs.Ytldpcliahfiloaa
open Go.RowKit

def labB (f : Int) : Bool := decide (3 ≤ f)
theorem nlab_any (f : Int) (w : World) (h1 : 1 ≤ f) (h2 : f ≤ 5) : Calls Try.prog 27 #[.int .i64 f] w fun e w' => e = .returned (.bool (labB f)) ∧ w' = w := by
  rcases fam_five h1 h2 with rfl | rfl | rfl | rfl | rfl
  all_goals
    go_enter Try.func27, Try.ntmps27
    go_wp2
    go_ret
    exact ⟨rfl, rfl⟩
theorem famSize_five {f : Int} (h : famSize f ≠ 0) : 1 ≤ f ∧ f ≤ 5 := by
  unfold famSize at h
  split at h
  · omega
  · split at h
    · omega
    · exact absurd rfl h

end Go.Proofs.Ytldpcliahfiloaa
