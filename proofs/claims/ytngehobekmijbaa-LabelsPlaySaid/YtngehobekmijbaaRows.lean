/-
  No cell of these rows narrows 'for every input' (looked for: loops, veiled, ifaces, maps, wideKeys, modest, calm, conditions, laid).
  DERIVED. THE GIVEN ROWS OF THIS SEAT. 4 by the template 'for every input the law returns true; each argument reads behind the call as it read before'; 0 by the template 'total and deterministic' (their statements: YtngehobekmijbaaTotals.lean).
  GIVEN WITH THE SEED: the statements are not yours to turn. If you find one false, say at which input.
  Laid BY PROGRAM, IN A SANDBOX (cutbox-rows.mjs): the forced cells as the released guide's own fill.sh prints them over the translation c77de37f9fad4d9f… (all of the seat's roots in one cut). By AI agents, Wed Nov 11 2026. No macro, syntax, notation, axiom, sorry.
-/
import Derived.Test.YtngehobekmijbaaChecked
import GoSem.Claim
import GoSem.ClaimJoined
import GoSem.ClaimMapViews
import Derived.JoinedTies
import Derived.KernelRfl
namespace Go.Proofs.Ytngehobekmijbaa
/- THE CELL 'sum', in the pinned program and in every row, IS THE sha256 OF THE DUMP (.gsa) THAT YtngehobekmijbaaProg.lean LOADS. Nothing in Lean hashes anything: it is a label: what it is worth is what the hold of that sum in a sandbox is worth. -/
noncomputable def Try.pinned : Pinned := { name := "ytngehobekmijbaa", sum := "c77de37f9fad4d9fb20a146210a36f0f82c820baff95359ed41522ba2691c775", checked := Try.checked }
namespace Rows
def none {H : Type} : Left H := { results := [], args := [] }

/-- 'heraldlaw26.LabelsLeast': WHATEVER THE INPUT: true; the input reads as it did. -/
def labelsLeastSpec : ChangeSpec := { name := "labelsLeast", fn := fun _ => fun
  | [d1, d2] => { results := [.lit (.bool true)], args := [d1, d2] }
  | _ => none }
def labelsLeastRow : OpenClaim := { program := "ytngehobekmijbaa", sum := "c77de37f9fad4d9fb20a146210a36f0f82c820baff95359ed41522ba2691c775", func := "herald/heraldlaw26.LabelsLeast", spec := "labelsLeast", unfollowed := true, recurses := true, plainKeys := false, apart := false }
def LabelsLeastSaid : Prop := labelsLeastRow.holds Try.pinned (OpenSpec.ofChange labelsLeastSpec)

/-- ITS FALSE NEIGHBOUR: 'it returns false'. Refute it at one input. -/
def labelsLeastWrong : ChangeSpec := { name := "labelsLeast", fn := fun _ => fun
  | [d1, d2] => { results := [.lit (.bool false)], args := [d1, d2] }
  | _ => none }
def LabelsLeastWrongFalsely : Prop := labelsLeastRow.holds Try.pinned (OpenSpec.ofChange labelsLeastWrong)

/-- 'heraldlaw26.LabelsOne': WHATEVER THE INPUT: true; the input reads as it did. -/
def labelsOneSpec : ChangeSpec := { name := "labelsOne", fn := fun _ => fun
  | [d1, d2, d3] => { results := [.lit (.bool true)], args := [d1, d2, d3] }
  | _ => none }
def labelsOneRow : OpenClaim := { program := "ytngehobekmijbaa", sum := "c77de37f9fad4d9fb20a146210a36f0f82c820baff95359ed41522ba2691c775", func := "herald/heraldlaw26.LabelsOne", spec := "labelsOne", unfollowed := true, recurses := true, plainKeys := false, apart := false }
def LabelsOneSaid : Prop := labelsOneRow.holds Try.pinned (OpenSpec.ofChange labelsOneSpec)

/-- ITS FALSE NEIGHBOUR: 'it returns false'. Refute it at one input. -/
def labelsOneWrong : ChangeSpec := { name := "labelsOne", fn := fun _ => fun
  | [d1, d2, d3] => { results := [.lit (.bool false)], args := [d1, d2, d3] }
  | _ => none }
def LabelsOneWrongFalsely : Prop := labelsOneRow.holds Try.pinned (OpenSpec.ofChange labelsOneWrong)

/-- 'heraldlaw26.LabelsPlay': WHATEVER THE INPUT: true; the input reads as it did. -/
def labelsPlaySpec : ChangeSpec := { name := "labelsPlay", fn := fun _ => fun
  | [d1, d2, d3] => { results := [.lit (.bool true)], args := [d1, d2, d3] }
  | _ => none }
def labelsPlayRow : OpenClaim := { program := "ytngehobekmijbaa", sum := "c77de37f9fad4d9fb20a146210a36f0f82c820baff95359ed41522ba2691c775", func := "herald/heraldlaw26.LabelsPlay", spec := "labelsPlay", unfollowed := true, recurses := true, plainKeys := false, apart := false }
def LabelsPlaySaid : Prop := labelsPlayRow.holds Try.pinned (OpenSpec.ofChange labelsPlaySpec)

/-- ITS FALSE NEIGHBOUR: 'it returns false'. Refute it at one input. -/
def labelsPlayWrong : ChangeSpec := { name := "labelsPlay", fn := fun _ => fun
  | [d1, d2, d3] => { results := [.lit (.bool false)], args := [d1, d2, d3] }
  | _ => none }
def LabelsPlayWrongFalsely : Prop := labelsPlayRow.holds Try.pinned (OpenSpec.ofChange labelsPlayWrong)

/-- 'heraldlaw26.LabelsKnown': WHATEVER THE INPUT: true; the input reads as it did. -/
def labelsKnownSpec : ChangeSpec := { name := "labelsKnown", fn := fun _ => fun
  | [] => { results := [.lit (.bool true)], args := [] }
  | _ => none }
def labelsKnownRow : OpenClaim := { program := "ytngehobekmijbaa", sum := "c77de37f9fad4d9fb20a146210a36f0f82c820baff95359ed41522ba2691c775", func := "herald/heraldlaw26.LabelsKnown", spec := "labelsKnown", unfollowed := true, recurses := true, plainKeys := false, apart := false }
def LabelsKnownSaid : Prop := labelsKnownRow.holds Try.pinned (OpenSpec.ofChange labelsKnownSpec)

/-- ITS FALSE NEIGHBOUR: 'it returns false'. Refute it at one input. -/
def labelsKnownWrong : ChangeSpec := { name := "labelsKnown", fn := fun _ => fun
  | [] => { results := [.lit (.bool false)], args := [] }
  | _ => none }
def LabelsKnownWrongFalsely : Prop := labelsKnownRow.holds Try.pinned (OpenSpec.ofChange labelsKnownWrong)

/- THE SECOND FORM. 'bulk': how many values and letters a reading holds, each counted each time it is reached (what is shared counts as often as it is met; a slice's spare places count too). A statement '..UptoSaid' is the law's where the arguments, and the package variables that the reading takes, are together of bulk at most 1048576: NARROWER than '..Said'. Prove '..Said' where nothing that the law and all that it calls make is longer than what came in: it says more and counts as full. Else prove '..UptoSaid'. A law counts once. -/
mutual
def uptoBulk {H : Type} : DataW H → Nat
  | .lit (.string bytes) => bytes.length + 1
  | .lit _ => 1
  | .nil => 1
  | .ptr d => uptoBulk d + 1
  | .slice elems spare => uptoBulkAll elems + uptoBulkAll spare + 1
  | .agg parts => uptoBulkAll parts + 1
  | .iface _ d => uptoBulk d + 1
  | .map entries => uptoBulkEntries entries + 1
  | .held _ => 1
def uptoBulkAll {H : Type} : List (DataW H) → Nat
  | [] => 0
  | d :: r => uptoBulk d + uptoBulkAll r
def uptoBulkEntries {H : Type} : List (Lit × DataW H) → Nat
  | [] => 0
  | x :: r => uptoBulkEntry x + uptoBulkEntries r
def uptoBulkEntry {H : Type} : Lit × DataW H → Nat
  | (.string bytes, d) => bytes.length + uptoBulk d + 1
  | (_, d) => uptoBulk d + 1
 end
def uptoSmall : (H : Type) → List (DataW H) → Bool := fun _ ds => decide (uptoBulkAll ds ≤ 1048576)
def OpenSpec.upto (s : _root_.Go.ChangeSpec) : _root_.Go.OpenSpec := { _root_.Go.OpenSpec.ofChange s with cond := some uptoSmall }

/-- 'heraldlaw26.LabelsLeast', WHERE WHAT IT READS IS OF BULK AT MOST 1048576: true; the input reads as it did. -/
def labelsLeastUptoRow : OpenClaim := { program := "ytngehobekmijbaa", sum := "c77de37f9fad4d9fb20a146210a36f0f82c820baff95359ed41522ba2691c775", func := "herald/heraldlaw26.LabelsLeast", spec := "labelsLeast", unfollowed := true, recurses := true, plainKeys := false, apart := false, narrowed := true }
def LabelsLeastUptoSaid : Prop := labelsLeastUptoRow.holds Try.pinned (OpenSpec.upto labelsLeastSpec)

/-- 'heraldlaw26.LabelsOne', WHERE WHAT IT READS IS OF BULK AT MOST 1048576: true; the input reads as it did. -/
def labelsOneUptoRow : OpenClaim := { program := "ytngehobekmijbaa", sum := "c77de37f9fad4d9fb20a146210a36f0f82c820baff95359ed41522ba2691c775", func := "herald/heraldlaw26.LabelsOne", spec := "labelsOne", unfollowed := true, recurses := true, plainKeys := false, apart := false, narrowed := true }
def LabelsOneUptoSaid : Prop := labelsOneUptoRow.holds Try.pinned (OpenSpec.upto labelsOneSpec)

/-- 'heraldlaw26.LabelsPlay', WHERE WHAT IT READS IS OF BULK AT MOST 1048576: true; the input reads as it did. -/
def labelsPlayUptoRow : OpenClaim := { program := "ytngehobekmijbaa", sum := "c77de37f9fad4d9fb20a146210a36f0f82c820baff95359ed41522ba2691c775", func := "herald/heraldlaw26.LabelsPlay", spec := "labelsPlay", unfollowed := true, recurses := true, plainKeys := false, apart := false, narrowed := true }
def LabelsPlayUptoSaid : Prop := labelsPlayUptoRow.holds Try.pinned (OpenSpec.upto labelsPlaySpec)

/-- 'heraldlaw26.LabelsKnown', WHERE WHAT IT READS IS OF BULK AT MOST 1048576: true; the input reads as it did. -/
def labelsKnownUptoRow : OpenClaim := { program := "ytngehobekmijbaa", sum := "c77de37f9fad4d9fb20a146210a36f0f82c820baff95359ed41522ba2691c775", func := "herald/heraldlaw26.LabelsKnown", spec := "labelsKnown", unfollowed := true, recurses := true, plainKeys := false, apart := false, narrowed := true }
def LabelsKnownUptoSaid : Prop := labelsKnownUptoRow.holds Try.pinned (OpenSpec.upto labelsKnownSpec)

end Rows
end Go.Proofs.Ytngehobekmijbaa
