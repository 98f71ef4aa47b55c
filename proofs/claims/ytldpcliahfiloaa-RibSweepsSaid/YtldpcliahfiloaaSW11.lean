/-
  Several texts in one.
-/
import Derived.Test.YtldpcliahfiloaaSW10
import Derived.Test.YtldpcliahfiloaaSW6
import Derived.Test.YtldpcliahfiloaaSW5
import Derived.Test.YtldpcliahfiloaaSW1
import Derived.Handy
import Derived.WalkSpells
import Derived.WalkLawsBesides
import Derived.LoopTactic
import Derived.Deep.QuietTactic
import Derived.BigQuiet
import Derived.Test.YtldpcliahfiloaaSW7
import Derived.Test.YtldpcliahfiloaaSW9
import Derived.Deep.RegionHeld3
set_option linter.unusedVariables false
set_option linter.unusedSimpArgs false
namespace Go.Proofs.Ytldpcliahfiloaa
open Go.ChangeShapes Go.WideShapes Go.ChangeAt Go.RowKit Go.Deep

/-- a slice that came in: nil, or n elements of C cells each, each of which meets E -/
def ElemsIn (w : World) (A : Option Addr) (len cap C : Nat) (E : List Value → Prop) : Prop :=
  len ≤ cap ∧ cap ≤ maxLen ∧ (A = none → cap = 0) ∧ (0 < len → ∃ b off, A = some ⟨b, off, none⟩ ∧ b < w.heap.size ∧ ∀ i, i < len → ∃ cs, cs.length = C ∧ E cs ∧ ∀ j, j < C → w.cell? ⟨b, off + i * C + j, none⟩ = cs[j]?)
theorem ElemsIn.below {w w' : World} {A : Option Addr} {len cap C : Nat} {E : List Value → Prop} {B : Nat} (h : ElemsIn w A len cap C E) (hb : Below B w w') (hB : w.heap.size ≤ B) : ElemsIn w' A len cap C E := by
  refine ⟨h.1, h.2.1, h.2.2.1, fun hl => ?_⟩
  obtain ⟨b, off, rfl, hlt, hc⟩ := h.2.2.2 hl
  refine ⟨b, off, rfl, Nat.lt_of_lt_of_le hlt hb.size, fun i hi => ?_⟩
  obtain ⟨cs, h1, h2, h3⟩ := hc i hi
  exact ⟨cs, h1, h2, fun j hj => (hb.cell (p := ⟨b, _, none⟩) (Nat.lt_of_lt_of_le hlt hB)).trans (h3 j hj)⟩
theorem ElemsIn.mono {w : World} {A : Option Addr} {len cap C : Nat} {E E' : List Value → Prop} (h : ElemsIn w A len cap C E) (hq : ∀ cs, E cs → E' cs) : ElemsIn w A len cap C E' := by
  refine ⟨h.1, h.2.1, h.2.2.1, fun hl => ?_⟩
  obtain ⟨b, off, rfl, hlt, hc⟩ := h.2.2.2 hl
  refine ⟨b, off, rfl, hlt, fun i hi => ?_⟩
  obtain ⟨cs, h1, h2, h3⟩ := hc i hi
  exact ⟨cs, h1, hq _ h2, h3⟩
/-- its first elements -/
theorem ElemsIn.take {w : World} {A : Option Addr} {len cap C n : Nat} {E : List Value → Prop} (h : ElemsIn w A len cap C E) (hn : n ≤ len) : ElemsIn w A n cap C E := by
  refine ⟨Nat.le_trans hn h.1, h.2.1, h.2.2.1, fun hl => ?_⟩
  obtain ⟨b, off, rfl, hlt, hc⟩ := h.2.2.2 (by omega)
  exact ⟨b, off, rfl, hlt, fun i hi => hc i (by omega)⟩
theorem ElemsIn.at_ {w : World} {A : Option Addr} {len cap C i : Nat} {E : List Value → Prop} (h : ElemsIn w A len cap C E) (hi : i < len) :
    ∃ b off cs, A = some ⟨b, off, none⟩ ∧ b < w.heap.size ∧ cs.length = C ∧ E cs ∧ ∀ j, j < C → w.cell? ⟨b, off + i * C + j, none⟩ = cs[j]? := by
  obtain ⟨b, off, rfl, hlt, hc⟩ := h.2.2.2 (by omega)
  obtain ⟨cs, h1, h2, h3⟩ := hc i hi
  exact ⟨b, off, cs, rfl, hlt, h1, h2, h3⟩

section
variable {H : Type} {enc : TypeId × Value → H} {P : Program} {w : World} {held : Bool}
end
end Go.Proofs.Ytldpcliahfiloaa
set_option linter.unusedVariables false
set_option linter.unusedSimpArgs false
namespace Go.Proofs.Ytldpcliahfiloaa
open Go.RowKit

def labB (f : Int) : Bool := decide (3 ≤ f)
theorem nlab_any (f : Int) (w : World) (h1 : 1 ≤ f) (h2 : f ≤ 5) : Calls Try.prog 27 #[.int .i64 f] w fun e w' => e = .returned (.bool (labB f)) ∧ w' = w := by
  rcases fam_five h1 h2 with rfl | rfl | rfl | rfl | rfl
  all_goals
    go_enter Try.func27, Try.ntmps27
    go_wp2
    go_ret
    exact ⟨rfl, rfl⟩
theorem famSize_five {f : Int} (h : famSize f ≠ 0) : 1 ≤ f ∧ f ≤ 5 := by
  unfold famSize at h
  split at h
  · omega
  · split at h
    · omega
    · exact absurd rfl h

end Go.Proofs.Ytldpcliahfiloaa
