/-
  No cell of these rows narrows 'for every input' (looked for: loops, veiled, ifaces, maps, wideKeys, modest, calm, conditions, laid).
  DERIVED. THE GIVEN ROWS OF THIS SEAT. 4 by the template 'for every input the law returns true; each argument reads behind the call as it read before'; 0 by the template 'total and deterministic' (their statements: YtldpcliahfiloaaTotals.lean).
  GIVEN WITH THE SEED: the statements are not yours to turn. If you find one false, say at which input.
  Laid BY PROGRAM, IN A SANDBOX (cutbox-rows.mjs): the forced cells as the released guide's own fill.sh prints them over the translation 5667048f1ed1d60d… (all of the seat's roots in one cut). By AI agents, Wed Nov 11 2026. No macro, syntax, notation, axiom, sorry.
-/
import Derived.Test.YtldpcliahfiloaaChecked
import GoSem.Claim
import GoSem.ClaimJoined
import GoSem.ClaimMapViews
import Derived.JoinedTies
import Derived.KernelRfl
namespace Go.Proofs.Ytldpcliahfiloaa
/- THE CELL 'sum', in the pinned program and in every row, IS THE sha256 OF THE DUMP (.gsa) THAT YtldpcliahfiloaaProg.lean LOADS. Nothing in Lean hashes anything: it is a label: what it is worth is what the hold of that sum in a sandbox is worth. -/
noncomputable def Try.pinned : Pinned := { name := "ytldpcliahfiloaa", sum := "5667048f1ed1d60da0185180c659ab77ba7111685e4605e6942622f72cb3146e", checked := Try.checked }
namespace Rows
def none {H : Type} : Left H := { results := [], args := [] }

/-- 'heraldlaw22.RibNewest': WHATEVER THE INPUT: true; the input reads as it did. -/
def ribNewestSpec : ChangeSpec := { name := "ribNewest", fn := fun _ => fun
  | [d1, d2] => { results := [.lit (.bool true)], args := [d1, d2] }
  | _ => none }
def ribNewestRow : OpenClaim := { program := "ytldpcliahfiloaa", sum := "5667048f1ed1d60da0185180c659ab77ba7111685e4605e6942622f72cb3146e", func := "herald/heraldlaw22.RibNewest", spec := "ribNewest", inPlace := ["internal/bytealg.abigen_runtime_cmpstring"], unfollowed := true, recurses := true, plainKeys := false, apart := false }
def RibNewestSaid : Prop := ribNewestRow.holds Try.pinned (OpenSpec.ofChange ribNewestSpec)

/-- ITS FALSE NEIGHBOUR: 'it returns false'. Refute it at one input. -/
def ribNewestWrong : ChangeSpec := { name := "ribNewest", fn := fun _ => fun
  | [d1, d2] => { results := [.lit (.bool false)], args := [d1, d2] }
  | _ => none }
def RibNewestWrongFalsely : Prop := ribNewestRow.holds Try.pinned (OpenSpec.ofChange ribNewestWrong)

/-- 'heraldlaw22.RibMost': WHATEVER THE INPUT: true; the input reads as it did. -/
def ribMostSpec : ChangeSpec := { name := "ribMost", fn := fun _ => fun
  | [d1, d2] => { results := [.lit (.bool true)], args := [d1, d2] }
  | _ => none }
def ribMostRow : OpenClaim := { program := "ytldpcliahfiloaa", sum := "5667048f1ed1d60da0185180c659ab77ba7111685e4605e6942622f72cb3146e", func := "herald/heraldlaw22.RibMost", spec := "ribMost", inPlace := ["internal/bytealg.abigen_runtime_cmpstring"], unfollowed := true, recurses := true, plainKeys := false, apart := false }
def RibMostSaid : Prop := ribMostRow.holds Try.pinned (OpenSpec.ofChange ribMostSpec)

/-- ITS FALSE NEIGHBOUR: 'it returns false'. Refute it at one input. -/
def ribMostWrong : ChangeSpec := { name := "ribMost", fn := fun _ => fun
  | [d1, d2] => { results := [.lit (.bool false)], args := [d1, d2] }
  | _ => none }
def RibMostWrongFalsely : Prop := ribMostRow.holds Try.pinned (OpenSpec.ofChange ribMostWrong)

/-- 'heraldlaw22.RibSweeps': WHATEVER THE INPUT: true; the input reads as it did. -/
def ribSweepsSpec : ChangeSpec := { name := "ribSweeps", fn := fun _ => fun
  | [d1, d2, d3] => { results := [.lit (.bool true)], args := [d1, d2, d3] }
  | _ => none }
def ribSweepsRow : OpenClaim := { program := "ytldpcliahfiloaa", sum := "5667048f1ed1d60da0185180c659ab77ba7111685e4605e6942622f72cb3146e", func := "herald/heraldlaw22.RibSweeps", spec := "ribSweeps", inPlace := ["internal/bytealg.abigen_runtime_cmpstring"], unfollowed := true, recurses := true, plainKeys := false, apart := false }
def RibSweepsSaid : Prop := ribSweepsRow.holds Try.pinned (OpenSpec.ofChange ribSweepsSpec)

/-- ITS FALSE NEIGHBOUR: 'it returns false'. Refute it at one input. -/
def ribSweepsWrong : ChangeSpec := { name := "ribSweeps", fn := fun _ => fun
  | [d1, d2, d3] => { results := [.lit (.bool false)], args := [d1, d2, d3] }
  | _ => none }
def RibSweepsWrongFalsely : Prop := ribSweepsRow.holds Try.pinned (OpenSpec.ofChange ribSweepsWrong)

/-- 'heraldlaw22.RibKnown': WHATEVER THE INPUT: true; the input reads as it did. -/
def ribKnownSpec : ChangeSpec := { name := "ribKnown", fn := fun _ => fun
  | [] => { results := [.lit (.bool true)], args := [] }
  | _ => none }
def ribKnownRow : OpenClaim := { program := "ytldpcliahfiloaa", sum := "5667048f1ed1d60da0185180c659ab77ba7111685e4605e6942622f72cb3146e", func := "herald/heraldlaw22.RibKnown", spec := "ribKnown", inPlace := ["internal/bytealg.abigen_runtime_cmpstring"], unfollowed := true, recurses := true, plainKeys := false, apart := false }
def RibKnownSaid : Prop := ribKnownRow.holds Try.pinned (OpenSpec.ofChange ribKnownSpec)

/-- ITS FALSE NEIGHBOUR: 'it returns false'. Refute it at one input. -/
def ribKnownWrong : ChangeSpec := { name := "ribKnown", fn := fun _ => fun
  | [] => { results := [.lit (.bool false)], args := [] }
  | _ => none }
def RibKnownWrongFalsely : Prop := ribKnownRow.holds Try.pinned (OpenSpec.ofChange ribKnownWrong)

/- THE SECOND FORM. 'bulk': how many values and letters a reading holds, each counted each time it is reached (what is shared counts as often as it is met; a slice's spare places count too). A statement '..UptoSaid' is the law's where the arguments, and the package variables that the reading takes, are together of bulk at most 1048576: NARROWER than '..Said'. Prove '..Said' where nothing that the law and all that it calls make is longer than what came in: it says more and counts as full. Else prove '..UptoSaid'. A law counts once. -/
mutual
def uptoBulk {H : Type} : DataW H → Nat
  | .lit (.string bytes) => bytes.length + 1
  | .lit _ => 1
  | .nil => 1
  | .ptr d => uptoBulk d + 1
  | .slice elems spare => uptoBulkAll elems + uptoBulkAll spare + 1
  | .agg parts => uptoBulkAll parts + 1
  | .iface _ d => uptoBulk d + 1
  | .map entries => uptoBulkEntries entries + 1
  | .held _ => 1
def uptoBulkAll {H : Type} : List (DataW H) → Nat
  | [] => 0
  | d :: r => uptoBulk d + uptoBulkAll r
def uptoBulkEntries {H : Type} : List (Lit × DataW H) → Nat
  | [] => 0
  | x :: r => uptoBulkEntry x + uptoBulkEntries r
def uptoBulkEntry {H : Type} : Lit × DataW H → Nat
  | (.string bytes, d) => bytes.length + uptoBulk d + 1
  | (_, d) => uptoBulk d + 1
 end
def uptoSmall : (H : Type) → List (DataW H) → Bool := fun _ ds => decide (uptoBulkAll ds ≤ 1048576)
def OpenSpec.upto (s : _root_.Go.ChangeSpec) : _root_.Go.OpenSpec := { _root_.Go.OpenSpec.ofChange s with cond := some uptoSmall }

/-- 'heraldlaw22.RibNewest', WHERE WHAT IT READS IS OF BULK AT MOST 1048576: true; the input reads as it did. -/
def ribNewestUptoRow : OpenClaim := { program := "ytldpcliahfiloaa", sum := "5667048f1ed1d60da0185180c659ab77ba7111685e4605e6942622f72cb3146e", func := "herald/heraldlaw22.RibNewest", spec := "ribNewest", inPlace := ["internal/bytealg.abigen_runtime_cmpstring"], unfollowed := true, recurses := true, plainKeys := false, apart := false, narrowed := true }
def RibNewestUptoSaid : Prop := ribNewestUptoRow.holds Try.pinned (OpenSpec.upto ribNewestSpec)

/-- 'heraldlaw22.RibMost', WHERE WHAT IT READS IS OF BULK AT MOST 1048576: true; the input reads as it did. -/
def ribMostUptoRow : OpenClaim := { program := "ytldpcliahfiloaa", sum := "5667048f1ed1d60da0185180c659ab77ba7111685e4605e6942622f72cb3146e", func := "herald/heraldlaw22.RibMost", spec := "ribMost", inPlace := ["internal/bytealg.abigen_runtime_cmpstring"], unfollowed := true, recurses := true, plainKeys := false, apart := false, narrowed := true }
def RibMostUptoSaid : Prop := ribMostUptoRow.holds Try.pinned (OpenSpec.upto ribMostSpec)

/-- 'heraldlaw22.RibSweeps', WHERE WHAT IT READS IS OF BULK AT MOST 1048576: true; the input reads as it did. -/
def ribSweepsUptoRow : OpenClaim := { program := "ytldpcliahfiloaa", sum := "5667048f1ed1d60da0185180c659ab77ba7111685e4605e6942622f72cb3146e", func := "herald/heraldlaw22.RibSweeps", spec := "ribSweeps", inPlace := ["internal/bytealg.abigen_runtime_cmpstring"], unfollowed := true, recurses := true, plainKeys := false, apart := false, narrowed := true }
def RibSweepsUptoSaid : Prop := ribSweepsUptoRow.holds Try.pinned (OpenSpec.upto ribSweepsSpec)

/-- 'heraldlaw22.RibKnown', WHERE WHAT IT READS IS OF BULK AT MOST 1048576: true; the input reads as it did. -/
def ribKnownUptoRow : OpenClaim := { program := "ytldpcliahfiloaa", sum := "5667048f1ed1d60da0185180c659ab77ba7111685e4605e6942622f72cb3146e", func := "herald/heraldlaw22.RibKnown", spec := "ribKnown", inPlace := ["internal/bytealg.abigen_runtime_cmpstring"], unfollowed := true, recurses := true, plainKeys := false, apart := false, narrowed := true }
def RibKnownUptoSaid : Prop := ribKnownUptoRow.holds Try.pinned (OpenSpec.upto ribKnownSpec)

end Rows
end Go.Proofs.Ytldpcliahfiloaa
