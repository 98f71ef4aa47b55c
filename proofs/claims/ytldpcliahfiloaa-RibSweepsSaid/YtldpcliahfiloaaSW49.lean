/-
  Several texts in one.
-/
import Derived.Test.YtldpcliahfiloaaSW20
import Derived.Test.YtldpcliahfiloaaSW19
import Derived.Test.YtldpcliahfiloaaSW21
set_option linter.unusedVariables false
set_option linter.unusedSimpArgs false
namespace Go.Proofs.Ytldpcliahfiloaa
open Go.RowKit Go.MapKept Go.Shelf
open Go.Lib hiding intOf

theorem Lg.eq_iff {a b : Lg} : (a.g = b.g ∧ a.a = b.a ∧ a.b = b.b) ↔ a = b := by
  cases a
  cases b
  simp
instance : DecidableEq Lg := fun a b => decidable_of_iff _ (Lg.eq_iff (a := a) (b := b))
end Go.Proofs.Ytldpcliahfiloaa
set_option linter.unusedVariables false
set_option linter.unusedSimpArgs false
namespace Go.Proofs.Ytldpcliahfiloaa
open Go.RowKit Go.MapKept Go.Shelf
open Go.Lib hiding intOf

theorem AtC.eq_iff {a b : AtC} : (a.origin = b.origin ∧ a.next = b.next ∧ a.hasMed = b.hasMed ∧ a.med = b.med ∧ a.hasPref = b.hasPref ∧ a.pref = b.pref ∧ a.atomic = b.atomic ∧ a.aggAs = b.aggAs ∧ a.aggId = b.aggId ∧ a.hasOrig = b.hasOrig ∧ a.orig = b.orig ∧ a.path = b.path ∧ a.comms = b.comms ∧ a.exts = b.exts ∧ a.larges = b.larges ∧ a.clus = b.clus) ↔ a = b := by
  constructor
  · rintro ⟨h0, h1, h2, h3, h4, h5, h6, h7, h8, h9, h10, h11, h12, h13, h14, h15⟩
    cases a
    cases b
    simp only at h0 h1 h2 h3 h4 h5 h6 h7 h8 h9 h10 h11 h12 h13 h14 h15
    subst h0 h1 h2 h3 h4 h5 h6 h7 h8 h9 h10 h11 h12 h13 h14 h15
    rfl
  · rintro rfl
    exact ⟨rfl, rfl, rfl, rfl, rfl, rfl, rfl, rfl, rfl, rfl, rfl, rfl, rfl, rfl, rfl, rfl⟩
instance : DecidableEq AtC := fun a b => decidable_of_iff _ (AtC.eq_iff (a := a) (b := b))
end Go.Proofs.Ytldpcliahfiloaa
