/-
  Several texts in one.
-/
import Derived.Test.YtldpcliahfiloaaSW23
import Derived.Test.YtldpcliahfiloaaSW18
set_option linter.unusedVariables false
set_option linter.unusedSimpArgs false
namespace Go.Proofs.Ytldpcliahfiloaa
open Go.RowKit Go.MapKept Go.Shelf
open Go.Lib hiding intOf

def hd (s : ByteArray) (n : Nat) : Nat := beVal (s.data.toList.take n)
theorem OwnL.grown {α : Type} {w w' : World} {base : Nat} {e : TypeId} {C : Nat} {F : α → List Value} {v : Value} {xs : List α} {row : Option Nat} (h : OwnL w base e C F v xs) (hg : w.grownBy w' row) (hne : ∀ k, row = some k → k < base) : OwnL w' base e C F v xs :=
  OwnM.grown h hg (fun k hk e2 => by
    have h1 := (OwnM.lt h k hk).1
    have h2 := hne k e2.symm
    omega)
end Go.Proofs.Ytldpcliahfiloaa
set_option linter.unusedVariables false
set_option linter.unusedSimpArgs false
namespace Go.Proofs.Ytldpcliahfiloaa
open Go.RowKit Go.MapKept Go.Shelf
open Go.Lib hiding intOf

/-- a list of bytes as a string -/
def bts (l : List UInt8) : ByteArray := ⟨l.toArray⟩
theorem fits (x k : Nat) (hk : k ≤ 64) (h : x < 2 ^ k) : Lib.bitLen x ≤ k := Lib.bitLen_le x k hk h
/-- an AS number's bytes -/
def asB (four : Bool) (n : Nat) : List UInt8 := if four = true then beB n 4 4 else if 65535 < n then beB 23456 2 2 else beB n 2 2
def segB (four : Bool) (s : Int × List Nat) : List UInt8 := beB s.1.toNat 1 1 ++ beB s.2.length 1 1 ++ s.2.flatMap (asB four)
/-- a path's bytes -/
def pathB (four : Bool) (l : List (Int × List Nat)) : List UInt8 := l.flatMap (segB four)
end Go.Proofs.Ytldpcliahfiloaa
set_option linter.unusedVariables false
set_option linter.unusedSimpArgs false
namespace Go.Proofs.Ytldpcliahfiloaa
open Go.RowKit Go.MapKept Go.Shelf
open Go.Lib hiding intOf

def sizeOf4 (four : Bool) : Nat := if four = true then 4 else 2
theorem Sg.cs_len (s : Sg) : s.cs.length = 2 := rfl
def u1 (n : Nat) : List Value := [.int .u32 n]
theorem u1_len (n : Nat) : (u1 n).length = 1 := rfl
/-- segments that a call made -/
structure SegsOwn (w : World) (base : Nat) (v : Value) (l : List (Int × List Nat)) : Prop where
  c : ∃ segs : List Sg, OwnL w base 97 2 Sg.cs v segs ∧ segs.map Sg.c = l ∧ ∀ s ∈ segs, OwnL w base 30 1 u1 (.slice s.A s.as_.length s.cap) s.as_ ∧ (∀ n ∈ s.as_, n < 4294967296) ∧ -9223372036854775808 ≤ s.kind ∧ s.kind ≤ 9223372036854775807
theorem SegsOwn.nil (w : World) (base : Nat) : SegsOwn w base (.slice none 0 0) [] := ⟨[], OwnL.nil _ _ _ _ _, rfl, fun s h => by cases h⟩
theorem SegsOwn.grown {w w' : World} {base : Nat} {v : Value} {l : List (Int × List Nat)} {row : Option Nat} (h : SegsOwn w base v l) (hg : w.grownBy w' row) (hne : ∀ k, row = some k → k < base) : SegsOwn w' base v l := by
  obtain ⟨segs, h1, h2, h3⟩ := h.c
  exact ⟨segs, h1.grown hg hne, h2, fun s hs => ⟨(h3 s hs).1.grown hg hne, (h3 s hs).2⟩⟩
theorem SegsOwn.below {w w' : World} {base : Nat} {v : Value} {l : List (Int × List Nat)} (h : SegsOwn w base v l) (hb : Below w.heap.size w w') : SegsOwn w' base v l := by
  obtain ⟨segs, h1, h2, h3⟩ := h.c
  exact ⟨segs, h1.below hb (Nat.le_refl _), h2, fun s hs => ⟨(h3 s hs).1.below hb (Nat.le_refl _), (h3 s hs).2⟩⟩
theorem OwnL.slice {α : Type} {w : World} {base : Nat} {e : TypeId} {C : Nat} {F : α → List Value} {A : Option Addr} {c : Nat} {xs : List α} (hF : ∀ a, (F a).length = C) (h : OwnL w base e C F (.slice A xs.length c) xs) : Rd w A C (xs.map F) ∧ xs.length ≤ c ∧ c ≤ maxLen := by
  obtain ⟨A2, c2, hv, h1, h2, h3⟩ := h.rd hF
  cases hv
  exact ⟨h1, h2, h3⟩
theorem SegsOwn.ok {w : World} {base : Nat} {v : Value} {l : List (Int × List Nat)} (h : SegsOwn w base v l) : ∃ A segs c, v = .slice A segs.length c ∧ SegsOk w A c segs ∧ segs.map Sg.c = l := by
  obtain ⟨segs, h1, h2, h3⟩ := h.c
  obtain ⟨A, c, rfl, hrd, hl, hc⟩ := h1.rd Sg.cs_len
  refine ⟨A, segs, c, rfl, ⟨hrd, fun s hs => ?_, hl, hc⟩, h2⟩
  obtain ⟨h4, h5, h6⟩ := h3 s hs
  obtain ⟨r1, r2, r3⟩ := h4.slice u1_len
  exact ⟨r1, r2, r3, h5, h6⟩
theorem infoSeg : (Try.prog.info? 97).map (fun i => (i.zero, i.size, i.bytes)) = some (some (.agg #[.int .i64 0, .slice none 0 0]), 2, 32) := by kernel_rfl
theorem infoU32 : (Try.prog.info? 30).map (fun i => (i.zero, i.size, i.bytes)) = some (some (.int .u32 0), 1, 4) := by kernel_rfl
end Go.Proofs.Ytldpcliahfiloaa
