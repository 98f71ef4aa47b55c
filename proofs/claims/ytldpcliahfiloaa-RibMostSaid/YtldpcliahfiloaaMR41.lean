/-
  Several texts in one.
-/
import Derived.Test.YtldpcliahfiloaaMR40
set_option linter.unusedVariables false
set_option linter.unusedSimpArgs false
namespace Go.Proofs.Ytldpcliahfiloaa
open Go.RowKit Go.MapKept
open Go.Lib hiding intOf

/-- a told prefix's place -/
def Nl.k (n : Nl) : Pk := ⟨n.fam, n.rd, n.addr, n.len, n.id.toNat⟩
/-- attributes of a MED alone -/
def medC (m : Nat) : AtC := ⟨0, [], ⟨#[]⟩, true, m, false, 0, false, 0, 0, [], [], [], false, 0, []⟩
/-- all places are of a family that there is -/
def FamsC (M : List TdC) : Prop := ∀ t ∈ M, 1 ≤ t.k.fam ∧ t.k.fam ≤ 5
theorem set_fams {M : List TdC} (h : FamsC M) {t : TdC} (ht : 1 ≤ t.k.fam ∧ t.k.fam ≤ 5) : FamsC (setC M t) := fun y hy => by
  rcases setC_mem hy with rfl | ⟨h2, _⟩
  · exact ht
  · exact h y h2
theorem may_fam {n : Nl} (h : nlMay n) : 1 ≤ n.k.fam ∧ n.k.fam ≤ 5 := by
  have h1 := famSize_five h.1.1
  exact h1
end Go.Proofs.Ytldpcliahfiloaa
