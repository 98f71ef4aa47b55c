/-
  Several texts in one.
-/
import Derived.Test.YtldpcliahfiloaaSW37
import Derived.Test.YtldpcliahfiloaaSW38
set_option linter.unusedVariables false
set_option linter.unusedSimpArgs false
namespace Go.Proofs.Ytldpcliahfiloaa
open Go.RowKit Go.MapKept
open Go.Lib hiding intOf

/-- a path that a rib hands out -/
def pathAr (k : Pk) (label : Nat) (a : Atr) (stale : Bool) : Array Value := #[.int .i64 k.fam, .int .u64 k.rd, .string k.addr, .int .i64 k.len, .int .u32 (k.id : Nat), .int .u32 (label : Nat), .int .i64 a.origin, .slice a.pA a.segs.length a.pC, .string a.next, .bool a.hasMed, .int .u32 (a.med : Nat), .bool a.hasPref, .int .u32 (a.pref : Nat), .bool a.atomic, .int .u32 (a.aggAs : Nat), .int .u32 (a.aggId : Nat), .slice a.mA a.comms.length a.mC, .slice a.xA a.exts.length a.xC, .slice a.lA a.larges.length a.lC, .bool a.hasOrig, .int .u32 (a.orig : Nat), .slice a.kA a.clus.length a.kC, .int .i64 0, .string ⟨#[]⟩, .int .u32 0, .int .u32 0, .string ⟨#[]⟩, .string ⟨#[]⟩, .bool stale]
def noPk : Pk := ⟨0, 0, ⟨#[]⟩, 0, 0⟩
/-- Get -/
def GetPost (base : Nat) (M : List TdC) (k : Pk) (w' : World) (e : Ending) : Prop :=
  match getC M k with
  | some t => ∃ a : Atr, e = .returned (.tuple #[.agg (pathAr k t.label a t.stale), .bool true]) ∧ AtO w' base a ∧ a.c = t.c
  | none => e = .returned (.tuple #[.agg (pathAr noPk 0 noAtr false), .bool false])
/-- Put: what it answers and what the rib is behind it -/
def putC (most : Int) (M : List TdC) (n : Nl) (c : AtC) : Bool × Int × List TdC :=
  if ¬ (nlMay n ∧ atOk c = true) then (false, 2, M)
  else if getC M n.k = none ∧ 0 < most ∧ most ≤ M.length then (true, 0, M)
  else (false, 0, setC M ⟨n.k, n.label.toNat, c, false⟩)
theorem putC_bad {most : Int} {M : List TdC} {n : Nl} {c : AtC} (h : ¬ (nlMay n ∧ atOk c = true)) : putC most M n c = (false, 2, M) := if_pos h
theorem putC_over {most : Int} {M : List TdC} {n : Nl} {c : AtC} (h : nlMay n ∧ atOk c = true) (h2 : getC M n.k = none ∧ 0 < most ∧ most ≤ M.length) : putC most M n c = (true, 0, M) := by
  unfold putC
  rw [if_neg (fun h3 => h3 h), if_pos h2]
theorem putC_set {most : Int} {M : List TdC} {n : Nl} {c : AtC} (h : nlMay n ∧ atOk c = true) (h2 : ¬ (getC M n.k = none ∧ 0 < most ∧ most ≤ M.length)) : putC most M n c = (false, 0, setC M ⟨n.k, n.label.toNat, c, false⟩) := by
  unfold putC
  rw [if_neg (fun h3 => h3 h), if_neg h2]
/-- a rib whose contents are M -/
def RibM (w : World) (base b m : Nat) (most : Int) (M : List TdC) : Prop := ∃ S, RibAt w base b m most S ∧ S.map Td.c = M
def PutPost (base b m : Nat) (most : Int) (M : List TdC) (n : Nl) (c : AtC) (w' : World) (e : Ending) : Prop :=
  e = .returned (.tuple #[.bool (putC most M n c).1, .int .i64 (putC most M n c).2.1]) ∧ RibM w' base b m most (putC most M n c).2.2
theorem RibM.below {w w' : World} {base b m : Nat} {most : Int} {M : List TdC} (h : RibM w base b m most M) (hb : Below w.heap.size w w') : RibM w' base b m most M := by
  obtain ⟨S, h1, h2⟩ := h
  exact ⟨S, h1.below hb, h2⟩
theorem RibM.keys {w : World} {base b m : Nat} {most : Int} {M : List TdC} (h : RibM w base b m most M) : KeysC M := by
  obtain ⟨S, h1, rfl⟩ := h
  exact keys_c h1.keys
theorem RibM.lt {w : World} {base b m : Nat} {most : Int} {M : List TdC} (h : RibM w base b m most M) : b < w.heap.size ∧ m < w.heap.size ∧ base ≤ b ∧ base ≤ m ∧ b ≠ m := by
  obtain ⟨S, h1, h2⟩ := h
  exact ⟨h1.lt.1, h1.lt.2, h1.low.1, h1.low.2, h1.ne⟩
/-- attributes of a MED alone, in memory -/
def medA (m : Nat) : Atr := { noAtr with hasMed := true, med := m }
theorem medA_c (m : Nat) : (medA m).c = medC m := rfl
theorem medA_own (w : World) (base : Nat) {m : Nat} (hm : m < 4294967296) : AtO w base (medA m) :=
  { noAtr_own w base with nfit := ⟨hm, (by show (0 : Nat) < 4294967296; decide), (by show (0 : Nat) < 4294967296; decide), (by show (0 : Nat) < 4294967296; decide), (by show (0 : Nat) < 4294967296; decide)⟩ }
theorem medC_sz (m : Nat) : AtrSz (medC m) := ⟨(by show (0 : Nat) * 32 ≤ 140737488351232; decide), (fun x hx => by cases hx), by show (0 : Nat) ≤ _; omega, (by show (0 : Nat) * 4 ≤ 140737488351232; decide), (by show (0 : Nat) * 8 ≤ 140737488351232; decide), (by show (0 : Nat) * 12 ≤ 140737488351232; decide), (by show (0 : Nat) * 4 ≤ 140737488351232; decide)⟩
theorem medC_ok (m : Nat) : atOk (medC m) = true := by rfl
end Go.Proofs.Ytldpcliahfiloaa
