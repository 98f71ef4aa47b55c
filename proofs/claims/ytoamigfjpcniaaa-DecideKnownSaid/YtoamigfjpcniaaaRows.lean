/-
  No cell of these rows narrows 'for every input' (looked for: loops, veiled, ifaces, maps, wideKeys, modest, calm, conditions, laid).
  DERIVED. THE GIVEN ROWS OF THIS SEAT. 5 by the template 'for every input the law returns true; each argument reads behind the call as it read before'; 0 by the template 'total and deterministic' (their statements: YtoamigfjpcniaaaTotals.lean).
  GIVEN WITH THE SEED: the statements are not yours to turn. If you find one false, say at which input.
  Laid BY PROGRAM, IN A SANDBOX (cutbox-rows.mjs): the forced cells as the released guide's own fill.sh prints them over the translation 10612a7c210d426a… (all of the seat's roots in one cut). By AI agents, Wed Nov 11 2026. No macro, syntax, notation, axiom, sorry.
-/
import Derived.Test.YtoamigfjpcniaaaChecked
import GoSem.Claim
import GoSem.ClaimJoined
import GoSem.ClaimMapViews
import Derived.JoinedTies
import Derived.KernelRfl
namespace Go.Proofs.Ytoamigfjpcniaaa
/- THE CELL 'sum', in the pinned program and in every row, IS THE sha256 OF THE DUMP (.gsa) THAT YtoamigfjpcniaaaProg.lean LOADS. Nothing in Lean hashes anything: it is a label: what it is worth is what the hold of that sum in a sandbox is worth. -/
noncomputable def Try.pinned : Pinned := { name := "ytoamigfjpcniaaa", sum := "10612a7c210d426aaba59f22de796cf2172626db2f0be15f2b33dbb9e7004945", checked := Try.checked }
namespace Rows
def none {H : Type} : Left H := { results := [], args := [] }

/-- 'heraldlaw25.DecideSame': WHATEVER THE INPUT: true; the input reads as it did. -/
def decideSameSpec : ChangeSpec := { name := "decideSame", fn := fun _ => fun
  | [d1, d2] => { results := [.lit (.bool true)], args := [d1, d2] }
  | _ => none }
def decideSameRow : OpenClaim := { program := "ytoamigfjpcniaaa", sum := "10612a7c210d426aaba59f22de796cf2172626db2f0be15f2b33dbb9e7004945", func := "herald/heraldlaw25.DecideSame", spec := "decideSame", inPlace := ["internal/bytealg.abigen_runtime_cmpstring"], unfollowed := true, recurses := true, apart := false }
def DecideSameSaid : Prop := decideSameRow.holds Try.pinned (OpenSpec.ofChange decideSameSpec)

/-- ITS FALSE NEIGHBOUR: 'it returns false'. Refute it at one input. -/
def decideSameWrong : ChangeSpec := { name := "decideSame", fn := fun _ => fun
  | [d1, d2] => { results := [.lit (.bool false)], args := [d1, d2] }
  | _ => none }
def DecideSameWrongFalsely : Prop := decideSameRow.holds Try.pinned (OpenSpec.ofChange decideSameWrong)

/-- 'heraldlaw25.DecideFirst': WHATEVER THE INPUT: true; the input reads as it did. -/
def decideFirstSpec : ChangeSpec := { name := "decideFirst", fn := fun _ => fun
  | [d1, d2] => { results := [.lit (.bool true)], args := [d1, d2] }
  | _ => none }
def decideFirstRow : OpenClaim := { program := "ytoamigfjpcniaaa", sum := "10612a7c210d426aaba59f22de796cf2172626db2f0be15f2b33dbb9e7004945", func := "herald/heraldlaw25.DecideFirst", spec := "decideFirst", inPlace := ["internal/bytealg.abigen_runtime_cmpstring"], unfollowed := true, recurses := true, apart := false }
def DecideFirstSaid : Prop := decideFirstRow.holds Try.pinned (OpenSpec.ofChange decideFirstSpec)

/-- ITS FALSE NEIGHBOUR: 'it returns false'. Refute it at one input. -/
def decideFirstWrong : ChangeSpec := { name := "decideFirst", fn := fun _ => fun
  | [d1, d2] => { results := [.lit (.bool false)], args := [d1, d2] }
  | _ => none }
def DecideFirstWrongFalsely : Prop := decideFirstRow.holds Try.pinned (OpenSpec.ofChange decideFirstWrong)

/-- 'heraldlaw25.DecidePicks': WHATEVER THE INPUT: true; the input reads as it did. -/
def decidePicksSpec : ChangeSpec := { name := "decidePicks", fn := fun _ => fun
  | [d1, d2, d3] => { results := [.lit (.bool true)], args := [d1, d2, d3] }
  | _ => none }
def decidePicksRow : OpenClaim := { program := "ytoamigfjpcniaaa", sum := "10612a7c210d426aaba59f22de796cf2172626db2f0be15f2b33dbb9e7004945", func := "herald/heraldlaw25.DecidePicks", spec := "decidePicks", inPlace := ["internal/bytealg.abigen_runtime_cmpstring"], unfollowed := true, recurses := true, apart := false }
def DecidePicksSaid : Prop := decidePicksRow.holds Try.pinned (OpenSpec.ofChange decidePicksSpec)

/-- ITS FALSE NEIGHBOUR: 'it returns false'. Refute it at one input. -/
def decidePicksWrong : ChangeSpec := { name := "decidePicks", fn := fun _ => fun
  | [d1, d2, d3] => { results := [.lit (.bool false)], args := [d1, d2, d3] }
  | _ => none }
def DecidePicksWrongFalsely : Prop := decidePicksRow.holds Try.pinned (OpenSpec.ofChange decidePicksWrong)

/-- 'heraldlaw25.DecideLoops': WHATEVER THE INPUT: true; the input reads as it did. -/
def decideLoopsSpec : ChangeSpec := { name := "decideLoops", fn := fun _ => fun
  | [d1, d2, d3] => { results := [.lit (.bool true)], args := [d1, d2, d3] }
  | _ => none }
def decideLoopsRow : OpenClaim := { program := "ytoamigfjpcniaaa", sum := "10612a7c210d426aaba59f22de796cf2172626db2f0be15f2b33dbb9e7004945", func := "herald/heraldlaw25.DecideLoops", spec := "decideLoops", inPlace := ["internal/bytealg.abigen_runtime_cmpstring"], unfollowed := true, recurses := true, apart := false }
def DecideLoopsSaid : Prop := decideLoopsRow.holds Try.pinned (OpenSpec.ofChange decideLoopsSpec)

/-- ITS FALSE NEIGHBOUR: 'it returns false'. Refute it at one input. -/
def decideLoopsWrong : ChangeSpec := { name := "decideLoops", fn := fun _ => fun
  | [d1, d2, d3] => { results := [.lit (.bool false)], args := [d1, d2, d3] }
  | _ => none }
def DecideLoopsWrongFalsely : Prop := decideLoopsRow.holds Try.pinned (OpenSpec.ofChange decideLoopsWrong)

/-- 'heraldlaw25.DecideKnown': WHATEVER THE INPUT: true; the input reads as it did. -/
def decideKnownSpec : ChangeSpec := { name := "decideKnown", fn := fun _ => fun
  | [] => { results := [.lit (.bool true)], args := [] }
  | _ => none }
def decideKnownRow : OpenClaim := { program := "ytoamigfjpcniaaa", sum := "10612a7c210d426aaba59f22de796cf2172626db2f0be15f2b33dbb9e7004945", func := "herald/heraldlaw25.DecideKnown", spec := "decideKnown", inPlace := ["internal/bytealg.abigen_runtime_cmpstring"], unfollowed := true, recurses := true, apart := false }
def DecideKnownSaid : Prop := decideKnownRow.holds Try.pinned (OpenSpec.ofChange decideKnownSpec)

/-- ITS FALSE NEIGHBOUR: 'it returns false'. Refute it at one input. -/
def decideKnownWrong : ChangeSpec := { name := "decideKnown", fn := fun _ => fun
  | [] => { results := [.lit (.bool false)], args := [] }
  | _ => none }
def DecideKnownWrongFalsely : Prop := decideKnownRow.holds Try.pinned (OpenSpec.ofChange decideKnownWrong)

/- THE SECOND FORM. 'bulk': how many values and letters a reading holds, each counted each time it is reached (what is shared counts as often as it is met; a slice's spare places count too). A statement '..UptoSaid' is the law's where the arguments, and the package variables that the reading takes, are together of bulk at most 1048576: NARROWER than '..Said'. Prove '..Said' where nothing that the law and all that it calls make is longer than what came in: it says more and counts as full. Else prove '..UptoSaid'. A law counts once. -/
mutual
def uptoBulk {H : Type} : DataW H → Nat
  | .lit (.string bytes) => bytes.length + 1
  | .lit _ => 1
  | .nil => 1
  | .ptr d => uptoBulk d + 1
  | .slice elems spare => uptoBulkAll elems + uptoBulkAll spare + 1
  | .agg parts => uptoBulkAll parts + 1
  | .iface _ d => uptoBulk d + 1
  | .map entries => uptoBulkEntries entries + 1
  | .held _ => 1
def uptoBulkAll {H : Type} : List (DataW H) → Nat
  | [] => 0
  | d :: r => uptoBulk d + uptoBulkAll r
def uptoBulkEntries {H : Type} : List (Lit × DataW H) → Nat
  | [] => 0
  | x :: r => uptoBulkEntry x + uptoBulkEntries r
def uptoBulkEntry {H : Type} : Lit × DataW H → Nat
  | (.string bytes, d) => bytes.length + uptoBulk d + 1
  | (_, d) => uptoBulk d + 1
 end
def uptoSmall : (H : Type) → List (DataW H) → Bool := fun _ ds => decide (uptoBulkAll ds ≤ 1048576)
def OpenSpec.upto (s : _root_.Go.ChangeSpec) : _root_.Go.OpenSpec := { _root_.Go.OpenSpec.ofChange s with cond := some uptoSmall }

/-- 'heraldlaw25.DecideSame', WHERE WHAT IT READS IS OF BULK AT MOST 1048576: true; the input reads as it did. -/
def decideSameUptoRow : OpenClaim := { program := "ytoamigfjpcniaaa", sum := "10612a7c210d426aaba59f22de796cf2172626db2f0be15f2b33dbb9e7004945", func := "herald/heraldlaw25.DecideSame", spec := "decideSame", inPlace := ["internal/bytealg.abigen_runtime_cmpstring"], unfollowed := true, recurses := true, apart := false, narrowed := true }
def DecideSameUptoSaid : Prop := decideSameUptoRow.holds Try.pinned (OpenSpec.upto decideSameSpec)

/-- 'heraldlaw25.DecideFirst', WHERE WHAT IT READS IS OF BULK AT MOST 1048576: true; the input reads as it did. -/
def decideFirstUptoRow : OpenClaim := { program := "ytoamigfjpcniaaa", sum := "10612a7c210d426aaba59f22de796cf2172626db2f0be15f2b33dbb9e7004945", func := "herald/heraldlaw25.DecideFirst", spec := "decideFirst", inPlace := ["internal/bytealg.abigen_runtime_cmpstring"], unfollowed := true, recurses := true, apart := false, narrowed := true }
def DecideFirstUptoSaid : Prop := decideFirstUptoRow.holds Try.pinned (OpenSpec.upto decideFirstSpec)

/-- 'heraldlaw25.DecidePicks', WHERE WHAT IT READS IS OF BULK AT MOST 1048576: true; the input reads as it did. -/
def decidePicksUptoRow : OpenClaim := { program := "ytoamigfjpcniaaa", sum := "10612a7c210d426aaba59f22de796cf2172626db2f0be15f2b33dbb9e7004945", func := "herald/heraldlaw25.DecidePicks", spec := "decidePicks", inPlace := ["internal/bytealg.abigen_runtime_cmpstring"], unfollowed := true, recurses := true, apart := false, narrowed := true }
def DecidePicksUptoSaid : Prop := decidePicksUptoRow.holds Try.pinned (OpenSpec.upto decidePicksSpec)

/-- 'heraldlaw25.DecideLoops', WHERE WHAT IT READS IS OF BULK AT MOST 1048576: true; the input reads as it did. -/
def decideLoopsUptoRow : OpenClaim := { program := "ytoamigfjpcniaaa", sum := "10612a7c210d426aaba59f22de796cf2172626db2f0be15f2b33dbb9e7004945", func := "herald/heraldlaw25.DecideLoops", spec := "decideLoops", inPlace := ["internal/bytealg.abigen_runtime_cmpstring"], unfollowed := true, recurses := true, apart := false, narrowed := true }
def DecideLoopsUptoSaid : Prop := decideLoopsUptoRow.holds Try.pinned (OpenSpec.upto decideLoopsSpec)

/-- 'heraldlaw25.DecideKnown', WHERE WHAT IT READS IS OF BULK AT MOST 1048576: true; the input reads as it did. -/
def decideKnownUptoRow : OpenClaim := { program := "ytoamigfjpcniaaa", sum := "10612a7c210d426aaba59f22de796cf2172626db2f0be15f2b33dbb9e7004945", func := "herald/heraldlaw25.DecideKnown", spec := "decideKnown", inPlace := ["internal/bytealg.abigen_runtime_cmpstring"], unfollowed := true, recurses := true, apart := false, narrowed := true }
def DecideKnownUptoSaid : Prop := decideKnownUptoRow.holds Try.pinned (OpenSpec.upto decideKnownSpec)

end Rows
end Go.Proofs.Ytoamigfjpcniaaa
