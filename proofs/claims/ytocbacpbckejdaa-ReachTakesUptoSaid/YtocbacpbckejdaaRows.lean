/-
  No cell of these rows narrows 'for every input' (looked for: loops, veiled, ifaces, maps, wideKeys, modest, calm, conditions, laid).
  DERIVED. THE GIVEN ROWS OF THIS SEAT. 6 by the template 'for every input the law returns true; each argument reads behind the call as it read before'; 0 by the template 'total and deterministic' (their statements: YtocbacpbckejdaaTotals.lean).
  GIVEN WITH THE SEED: the statements are not yours to turn. If you find one false, say at which input.
  Laid BY PROGRAM, IN A SANDBOX (cutbox-rows.mjs): the forced cells as the released guide's own fill.sh prints them over the translation 547f0a90b2d0e53a… (all of the seat's roots in one cut). By AI agents, Wed Nov 11 2026. No macro, syntax, notation, axiom, sorry.
-/
import Derived.Test.YtocbacpbckejdaaChecked
import GoSem.Claim
import GoSem.ClaimJoined
import GoSem.ClaimMapViews
import Derived.JoinedTies
import Derived.KernelRfl
namespace Go.Proofs.Ytocbacpbckejdaa
/- THE CELL 'sum', in the pinned program and in every row, IS THE sha256 OF THE DUMP (.gsa) THAT YtocbacpbckejdaaProg.lean LOADS. Nothing in Lean hashes anything: it is a label: what it is worth is what the hold of that sum in a sandbox is worth. -/
noncomputable def Try.pinned : Pinned := { name := "ytocbacpbckejdaa", sum := "547f0a90b2d0e53ac660301b8fc38b458b26c99efd8daf343d348f41f4afc277", checked := Try.checked }
namespace Rows
def none {H : Type} : Left H := { results := [], args := [] }

/-- 'heraldlaw08.ReachPairs': WHATEVER THE INPUT: true; the input reads as it did. -/
def reachPairsSpec : ChangeSpec := { name := "reachPairs", fn := fun _ => fun
  | [d1, d2, d3] => { results := [.lit (.bool true)], args := [d1, d2, d3] }
  | _ => none }
def reachPairsRow : OpenClaim := { program := "ytocbacpbckejdaa", sum := "547f0a90b2d0e53ac660301b8fc38b458b26c99efd8daf343d348f41f4afc277", func := "herald/heraldlaw08.ReachPairs", spec := "reachPairs", unfollowed := true, recurses := true, apart := false }
def ReachPairsSaid : Prop := reachPairsRow.holds Try.pinned (OpenSpec.ofChange reachPairsSpec)

/-- ITS FALSE NEIGHBOUR: 'it returns false'. Refute it at one input. -/
def reachPairsWrong : ChangeSpec := { name := "reachPairs", fn := fun _ => fun
  | [d1, d2, d3] => { results := [.lit (.bool false)], args := [d1, d2, d3] }
  | _ => none }
def ReachPairsWrongFalsely : Prop := reachPairsRow.holds Try.pinned (OpenSpec.ofChange reachPairsWrong)

/-- 'heraldlaw08.ReachPaired': WHATEVER THE INPUT: true; the input reads as it did. -/
def reachPairedSpec : ChangeSpec := { name := "reachPaired", fn := fun _ => fun
  | [d1, d2] => { results := [.lit (.bool true)], args := [d1, d2] }
  | _ => none }
def reachPairedRow : OpenClaim := { program := "ytocbacpbckejdaa", sum := "547f0a90b2d0e53ac660301b8fc38b458b26c99efd8daf343d348f41f4afc277", func := "herald/heraldlaw08.ReachPaired", spec := "reachPaired", unfollowed := true, recurses := true, apart := false }
def ReachPairedSaid : Prop := reachPairedRow.holds Try.pinned (OpenSpec.ofChange reachPairedSpec)

/-- ITS FALSE NEIGHBOUR: 'it returns false'. Refute it at one input. -/
def reachPairedWrong : ChangeSpec := { name := "reachPaired", fn := fun _ => fun
  | [d1, d2] => { results := [.lit (.bool false)], args := [d1, d2] }
  | _ => none }
def ReachPairedWrongFalsely : Prop := reachPairedRow.holds Try.pinned (OpenSpec.ofChange reachPairedWrong)

/-- 'heraldlaw08.ReachPuts': WHATEVER THE INPUT: true; the input reads as it did. -/
def reachPutsSpec : ChangeSpec := { name := "reachPuts", fn := fun _ => fun
  | [d1, d2] => { results := [.lit (.bool true)], args := [d1, d2] }
  | _ => none }
def reachPutsRow : OpenClaim := { program := "ytocbacpbckejdaa", sum := "547f0a90b2d0e53ac660301b8fc38b458b26c99efd8daf343d348f41f4afc277", func := "herald/heraldlaw08.ReachPuts", spec := "reachPuts", unfollowed := true, recurses := true, apart := false }
def ReachPutsSaid : Prop := reachPutsRow.holds Try.pinned (OpenSpec.ofChange reachPutsSpec)

/-- ITS FALSE NEIGHBOUR: 'it returns false'. Refute it at one input. -/
def reachPutsWrong : ChangeSpec := { name := "reachPuts", fn := fun _ => fun
  | [d1, d2] => { results := [.lit (.bool false)], args := [d1, d2] }
  | _ => none }
def ReachPutsWrongFalsely : Prop := reachPutsRow.holds Try.pinned (OpenSpec.ofChange reachPutsWrong)

/-- 'heraldlaw08.ReachTakes': WHATEVER THE INPUT: true; the input reads as it did. -/
def reachTakesSpec : ChangeSpec := { name := "reachTakes", fn := fun _ => fun
  | [d1, d2] => { results := [.lit (.bool true)], args := [d1, d2] }
  | _ => none }
def reachTakesRow : OpenClaim := { program := "ytocbacpbckejdaa", sum := "547f0a90b2d0e53ac660301b8fc38b458b26c99efd8daf343d348f41f4afc277", func := "herald/heraldlaw08.ReachTakes", spec := "reachTakes", unfollowed := true, recurses := true, apart := false }
def ReachTakesSaid : Prop := reachTakesRow.holds Try.pinned (OpenSpec.ofChange reachTakesSpec)

/-- ITS FALSE NEIGHBOUR: 'it returns false'. Refute it at one input. -/
def reachTakesWrong : ChangeSpec := { name := "reachTakes", fn := fun _ => fun
  | [d1, d2] => { results := [.lit (.bool false)], args := [d1, d2] }
  | _ => none }
def ReachTakesWrongFalsely : Prop := reachTakesRow.holds Try.pinned (OpenSpec.ofChange reachTakesWrong)

/-- 'heraldlaw08.ReachBack': WHATEVER THE INPUT: true; the input reads as it did. -/
def reachBackSpec : ChangeSpec := { name := "reachBack", fn := fun _ => fun
  | [d1, d2, d3] => { results := [.lit (.bool true)], args := [d1, d2, d3] }
  | _ => none }
def reachBackRow : OpenClaim := { program := "ytocbacpbckejdaa", sum := "547f0a90b2d0e53ac660301b8fc38b458b26c99efd8daf343d348f41f4afc277", func := "herald/heraldlaw08.ReachBack", spec := "reachBack", unfollowed := true, recurses := true, apart := false }
def ReachBackSaid : Prop := reachBackRow.holds Try.pinned (OpenSpec.ofChange reachBackSpec)

/-- ITS FALSE NEIGHBOUR: 'it returns false'. Refute it at one input. -/
def reachBackWrong : ChangeSpec := { name := "reachBack", fn := fun _ => fun
  | [d1, d2, d3] => { results := [.lit (.bool false)], args := [d1, d2, d3] }
  | _ => none }
def ReachBackWrongFalsely : Prop := reachBackRow.holds Try.pinned (OpenSpec.ofChange reachBackWrong)

/-- 'heraldlaw08.ReachKnown': WHATEVER THE INPUT: true; the input reads as it did. -/
def reachKnownSpec : ChangeSpec := { name := "reachKnown", fn := fun _ => fun
  | [] => { results := [.lit (.bool true)], args := [] }
  | _ => none }
def reachKnownRow : OpenClaim := { program := "ytocbacpbckejdaa", sum := "547f0a90b2d0e53ac660301b8fc38b458b26c99efd8daf343d348f41f4afc277", func := "herald/heraldlaw08.ReachKnown", spec := "reachKnown", unfollowed := true, recurses := true, apart := false }
def ReachKnownSaid : Prop := reachKnownRow.holds Try.pinned (OpenSpec.ofChange reachKnownSpec)

/-- ITS FALSE NEIGHBOUR: 'it returns false'. Refute it at one input. -/
def reachKnownWrong : ChangeSpec := { name := "reachKnown", fn := fun _ => fun
  | [] => { results := [.lit (.bool false)], args := [] }
  | _ => none }
def ReachKnownWrongFalsely : Prop := reachKnownRow.holds Try.pinned (OpenSpec.ofChange reachKnownWrong)

/- THE SECOND FORM. 'bulk': how many values and letters a reading holds, each counted each time it is reached (what is shared counts as often as it is met; a slice's spare places count too). A statement '..UptoSaid' is the law's where the arguments, and the package variables that the reading takes, are together of bulk at most 1048576: NARROWER than '..Said'. Prove '..Said' where nothing that the law and all that it calls make is longer than what came in: it says more and counts as full. Else prove '..UptoSaid'. A law counts once. -/
mutual
def uptoBulk {H : Type} : DataW H → Nat
  | .lit (.string bytes) => bytes.length + 1
  | .lit _ => 1
  | .nil => 1
  | .ptr d => uptoBulk d + 1
  | .slice elems spare => uptoBulkAll elems + uptoBulkAll spare + 1
  | .agg parts => uptoBulkAll parts + 1
  | .iface _ d => uptoBulk d + 1
  | .map entries => uptoBulkEntries entries + 1
  | .held _ => 1
def uptoBulkAll {H : Type} : List (DataW H) → Nat
  | [] => 0
  | d :: r => uptoBulk d + uptoBulkAll r
def uptoBulkEntries {H : Type} : List (Lit × DataW H) → Nat
  | [] => 0
  | x :: r => uptoBulkEntry x + uptoBulkEntries r
def uptoBulkEntry {H : Type} : Lit × DataW H → Nat
  | (.string bytes, d) => bytes.length + uptoBulk d + 1
  | (_, d) => uptoBulk d + 1
 end
def uptoSmall : (H : Type) → List (DataW H) → Bool := fun _ ds => decide (uptoBulkAll ds ≤ 1048576)
def OpenSpec.upto (s : _root_.Go.ChangeSpec) : _root_.Go.OpenSpec := { _root_.Go.OpenSpec.ofChange s with cond := some uptoSmall }

/-- 'heraldlaw08.ReachPairs', WHERE WHAT IT READS IS OF BULK AT MOST 1048576: true; the input reads as it did. -/
def reachPairsUptoRow : OpenClaim := { program := "ytocbacpbckejdaa", sum := "547f0a90b2d0e53ac660301b8fc38b458b26c99efd8daf343d348f41f4afc277", func := "herald/heraldlaw08.ReachPairs", spec := "reachPairs", unfollowed := true, recurses := true, apart := false, narrowed := true }
def ReachPairsUptoSaid : Prop := reachPairsUptoRow.holds Try.pinned (OpenSpec.upto reachPairsSpec)

/-- 'heraldlaw08.ReachPaired', WHERE WHAT IT READS IS OF BULK AT MOST 1048576: true; the input reads as it did. -/
def reachPairedUptoRow : OpenClaim := { program := "ytocbacpbckejdaa", sum := "547f0a90b2d0e53ac660301b8fc38b458b26c99efd8daf343d348f41f4afc277", func := "herald/heraldlaw08.ReachPaired", spec := "reachPaired", unfollowed := true, recurses := true, apart := false, narrowed := true }
def ReachPairedUptoSaid : Prop := reachPairedUptoRow.holds Try.pinned (OpenSpec.upto reachPairedSpec)

/-- 'heraldlaw08.ReachPuts', WHERE WHAT IT READS IS OF BULK AT MOST 1048576: true; the input reads as it did. -/
def reachPutsUptoRow : OpenClaim := { program := "ytocbacpbckejdaa", sum := "547f0a90b2d0e53ac660301b8fc38b458b26c99efd8daf343d348f41f4afc277", func := "herald/heraldlaw08.ReachPuts", spec := "reachPuts", unfollowed := true, recurses := true, apart := false, narrowed := true }
def ReachPutsUptoSaid : Prop := reachPutsUptoRow.holds Try.pinned (OpenSpec.upto reachPutsSpec)

/-- 'heraldlaw08.ReachTakes', WHERE WHAT IT READS IS OF BULK AT MOST 1048576: true; the input reads as it did. -/
def reachTakesUptoRow : OpenClaim := { program := "ytocbacpbckejdaa", sum := "547f0a90b2d0e53ac660301b8fc38b458b26c99efd8daf343d348f41f4afc277", func := "herald/heraldlaw08.ReachTakes", spec := "reachTakes", unfollowed := true, recurses := true, apart := false, narrowed := true }
def ReachTakesUptoSaid : Prop := reachTakesUptoRow.holds Try.pinned (OpenSpec.upto reachTakesSpec)

/-- 'heraldlaw08.ReachBack', WHERE WHAT IT READS IS OF BULK AT MOST 1048576: true; the input reads as it did. -/
def reachBackUptoRow : OpenClaim := { program := "ytocbacpbckejdaa", sum := "547f0a90b2d0e53ac660301b8fc38b458b26c99efd8daf343d348f41f4afc277", func := "herald/heraldlaw08.ReachBack", spec := "reachBack", unfollowed := true, recurses := true, apart := false, narrowed := true }
def ReachBackUptoSaid : Prop := reachBackUptoRow.holds Try.pinned (OpenSpec.upto reachBackSpec)

/-- 'heraldlaw08.ReachKnown', WHERE WHAT IT READS IS OF BULK AT MOST 1048576: true; the input reads as it did. -/
def reachKnownUptoRow : OpenClaim := { program := "ytocbacpbckejdaa", sum := "547f0a90b2d0e53ac660301b8fc38b458b26c99efd8daf343d348f41f4afc277", func := "herald/heraldlaw08.ReachKnown", spec := "reachKnown", unfollowed := true, recurses := true, apart := false, narrowed := true }
def ReachKnownUptoSaid : Prop := reachKnownUptoRow.holds Try.pinned (OpenSpec.upto reachKnownSpec)

end Rows
end Go.Proofs.Ytocbacpbckejdaa
