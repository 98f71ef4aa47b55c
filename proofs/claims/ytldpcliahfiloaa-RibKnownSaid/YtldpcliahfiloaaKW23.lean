/-
  Several texts in one.
-/
import Derived.Test.YtldpcliahfiloaaKW22
import Derived.Test.YtldpcliahfiloaaKW18
set_option linter.unusedVariables false
set_option linter.unusedSimpArgs false
namespace Go.Proofs.Ytldpcliahfiloaa
open Go.RowKit Go.MapKept Go.Shelf
open Go.Lib hiding intOf

def hd (s : ByteArray) (n : Nat) : Nat := beVal (s.data.toList.take n)
theorem OwnL.grown {α : Type} {w w' : World} {base : Nat} {e : TypeId} {C : Nat} {F : α → List Value} {v : Value} {xs : List α} {row : Option Nat} (h : OwnL w base e C F v xs) (hg : w.grownBy w' row) (hne : ∀ k, row = some k → k < base) : OwnL w' base e C F v xs :=
  OwnM.grown h hg (fun k hk e2 => by
    have h1 := (OwnM.lt h k hk).1
    have h2 := hne k e2.symm
    omega)
end Go.Proofs.Ytldpcliahfiloaa
set_option linter.unusedVariables false
set_option linter.unusedSimpArgs false
namespace Go.Proofs.Ytldpcliahfiloaa
open Go.RowKit Go.MapKept Go.Shelf
open Go.Lib hiding intOf

/-- a list of bytes as a string -/
def bts (l : List UInt8) : ByteArray := ⟨l.toArray⟩
theorem fits (x k : Nat) (hk : k ≤ 64) (h : x < 2 ^ k) : Lib.bitLen x ≤ k := Lib.bitLen_le x k hk h
/-- an AS number's bytes -/
def asB (four : Bool) (n : Nat) : List UInt8 := if four = true then beB n 4 4 else if 65535 < n then beB 23456 2 2 else beB n 2 2
def segB (four : Bool) (s : Int × List Nat) : List UInt8 := beB s.1.toNat 1 1 ++ beB s.2.length 1 1 ++ s.2.flatMap (asB four)
/-- a path's bytes -/
def pathB (four : Bool) (l : List (Int × List Nat)) : List UInt8 := l.flatMap (segB four)
end Go.Proofs.Ytldpcliahfiloaa
