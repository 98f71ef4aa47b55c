/-
  Several texts in one.
-/
import Derived.Test.YtldpcliahfiloaaNW33
import Derived.Test.YtldpcliahfiloaaNW35
set_option linter.unusedVariables false
set_option linter.unusedSimpArgs false
namespace Go.Proofs.Ytldpcliahfiloaa
open Go.RowKit Go.MapKept Go.Shelf
open Go.Lib hiding intOf

theorem AtO.lower' {w : World} {b b' : Nat} {a : Atr} (h : AtO w b a) (hb : b' ≤ b) : AtO w b' a :=
  { h with path := ⟨OwnM.lower h.path.own hb, fun s hs => ⟨OwnM.lower (h.path.as_ s hs).1 hb, (h.path.as_ s hs).2⟩⟩, comms := OwnM.lower h.comms hb, exts := OwnM.lower h.exts hb, larges := OwnM.lower h.larges hb, clus := OwnM.lower h.clus hb }
end Go.Proofs.Ytldpcliahfiloaa
