/-
  No cell of these rows narrows 'for every input' (looked for: loops, veiled, ifaces, maps, wideKeys, modest, calm, conditions, laid).
  DERIVED. THE GIVEN ROWS OF THIS SEAT. 10 by the template 'for every input the law returns true; each argument reads behind the call as it read before'; 0 by the template 'total and deterministic' (their statements: YtkcojblflebomaaGreatTotals.lean).
  GIVEN WITH THE SEED: the statements are not yours to turn. If you find one false, say at which input.
  Laid BY PROGRAM, IN A SANDBOX (cutbox-rows.mjs): the forced cells as the released guide's own fill.sh prints them over the translation 45f0e46f4e636e5d… (all of the seat's roots in one cut). By AI agents, Wed Nov 11 2026. No macro, syntax, notation, axiom, sorry.
-/
import Derived.Test.YtkcojblflebomaaGreatChecked
import GoSem.Claim
import GoSem.ClaimJoined
import GoSem.ClaimMapViews
import Derived.JoinedTies
import Derived.KernelRfl
namespace Go.Proofs.YtkcojblflebomaaGreat
/- THE CELL 'sum', in the pinned program and in every row, IS THE sha256 OF THE DUMP (.gsa) THAT YtkcojblflebomaaGreatProg.lean LOADS. Nothing in Lean hashes anything: it is a label: what it is worth is what the hold of that sum in a sandbox is worth. -/
noncomputable def Tryz.pinned : Pinned := { name := "ytkcojblflebomaagreat", sum := "45f0e46f4e636e5db1d69cb702bb6b6e7d90b43956cc3eba64496bcea5283ee7", checked := Tryz.checked }
namespace Rows
def none {H : Type} : Left H := { results := [], args := [] }

/-- 'heraldlaw06.AttrLays': WHATEVER THE INPUT: true; the input reads as it did. -/
def attrLaysSpec : ChangeSpec := { name := "attrLays", fn := fun _ => fun
  | [d] => { results := [.lit (.bool true)], args := [d] }
  | _ => none }
def attrLaysRow : OpenClaim := { program := "ytkcojblflebomaagreat", sum := "45f0e46f4e636e5db1d69cb702bb6b6e7d90b43956cc3eba64496bcea5283ee7", func := "herald/heraldlaw06.AttrLays", spec := "attrLays", unfollowed := true, recurses := true, apart := false }
def AttrLaysSaid : Prop := attrLaysRow.holds Tryz.pinned (OpenSpec.ofChange attrLaysSpec)

/-- ITS FALSE NEIGHBOUR: 'it returns false'. Refute it at one input. -/
def attrLaysWrong : ChangeSpec := { name := "attrLays", fn := fun _ => fun
  | [d] => { results := [.lit (.bool false)], args := [d] }
  | _ => none }
def AttrLaysWrongFalsely : Prop := attrLaysRow.holds Tryz.pinned (OpenSpec.ofChange attrLaysWrong)

/-- 'heraldlaw06.AttrSplits': WHATEVER THE INPUT: true; the input reads as it did. -/
def attrSplitsSpec : ChangeSpec := { name := "attrSplits", fn := fun _ => fun
  | [d] => { results := [.lit (.bool true)], args := [d] }
  | _ => none }
def attrSplitsRow : OpenClaim := { program := "ytkcojblflebomaagreat", sum := "45f0e46f4e636e5db1d69cb702bb6b6e7d90b43956cc3eba64496bcea5283ee7", func := "herald/heraldlaw06.AttrSplits", spec := "attrSplits", unfollowed := true, recurses := true, apart := false }
def AttrSplitsSaid : Prop := attrSplitsRow.holds Tryz.pinned (OpenSpec.ofChange attrSplitsSpec)

/-- ITS FALSE NEIGHBOUR: 'it returns false'. Refute it at one input. -/
def attrSplitsWrong : ChangeSpec := { name := "attrSplits", fn := fun _ => fun
  | [d] => { results := [.lit (.bool false)], args := [d] }
  | _ => none }
def AttrSplitsWrongFalsely : Prop := attrSplitsRow.holds Tryz.pinned (OpenSpec.ofChange attrSplitsWrong)

/-- 'heraldlaw06.AttrReads': WHATEVER THE INPUT: true; the input reads as it did. -/
def attrReadsSpec : ChangeSpec := { name := "attrReads", fn := fun _ => fun
  | [d1, d2, d3] => { results := [.lit (.bool true)], args := [d1, d2, d3] }
  | _ => none }
def attrReadsRow : OpenClaim := { program := "ytkcojblflebomaagreat", sum := "45f0e46f4e636e5db1d69cb702bb6b6e7d90b43956cc3eba64496bcea5283ee7", func := "herald/heraldlaw06.AttrReads", spec := "attrReads", unfollowed := true, recurses := true, apart := false }
def AttrReadsSaid : Prop := attrReadsRow.holds Tryz.pinned (OpenSpec.ofChange attrReadsSpec)

/-- ITS FALSE NEIGHBOUR: 'it returns false'. Refute it at one input. -/
def attrReadsWrong : ChangeSpec := { name := "attrReads", fn := fun _ => fun
  | [d1, d2, d3] => { results := [.lit (.bool false)], args := [d1, d2, d3] }
  | _ => none }
def AttrReadsWrongFalsely : Prop := attrReadsRow.holds Tryz.pinned (OpenSpec.ofChange attrReadsWrong)

/-- 'heraldlaw06.AttrSame': WHATEVER THE INPUT: true; the input reads as it did. -/
def attrSameSpec : ChangeSpec := { name := "attrSame", fn := fun _ => fun
  | [d1, d2] => { results := [.lit (.bool true)], args := [d1, d2] }
  | _ => none }
def attrSameRow : OpenClaim := { program := "ytkcojblflebomaagreat", sum := "45f0e46f4e636e5db1d69cb702bb6b6e7d90b43956cc3eba64496bcea5283ee7", func := "herald/heraldlaw06.AttrSame", spec := "attrSame", unfollowed := true, recurses := true, apart := false }
def AttrSameSaid : Prop := attrSameRow.holds Tryz.pinned (OpenSpec.ofChange attrSameSpec)

/-- ITS FALSE NEIGHBOUR: 'it returns false'. Refute it at one input. -/
def attrSameWrong : ChangeSpec := { name := "attrSame", fn := fun _ => fun
  | [d1, d2] => { results := [.lit (.bool false)], args := [d1, d2] }
  | _ => none }
def AttrSameWrongFalsely : Prop := attrSameRow.holds Tryz.pinned (OpenSpec.ofChange attrSameWrong)

/-- 'heraldlaw06.AttrBack': WHATEVER THE INPUT: true; the input reads as it did. -/
def attrBackSpec : ChangeSpec := { name := "attrBack", fn := fun _ => fun
  | [d] => { results := [.lit (.bool true)], args := [d] }
  | _ => none }
def attrBackRow : OpenClaim := { program := "ytkcojblflebomaagreat", sum := "45f0e46f4e636e5db1d69cb702bb6b6e7d90b43956cc3eba64496bcea5283ee7", func := "herald/heraldlaw06.AttrBack", spec := "attrBack", unfollowed := true, recurses := true, apart := false }
def AttrBackSaid : Prop := attrBackRow.holds Tryz.pinned (OpenSpec.ofChange attrBackSpec)

/-- ITS FALSE NEIGHBOUR: 'it returns false'. Refute it at one input. -/
def attrBackWrong : ChangeSpec := { name := "attrBack", fn := fun _ => fun
  | [d] => { results := [.lit (.bool false)], args := [d] }
  | _ => none }
def AttrBackWrongFalsely : Prop := attrBackRow.holds Tryz.pinned (OpenSpec.ofChange attrBackWrong)

/-- 'heraldlaw06.AttrAgain': WHATEVER THE INPUT: true; the input reads as it did. -/
def attrAgainSpec : ChangeSpec := { name := "attrAgain", fn := fun _ => fun
  | [d] => { results := [.lit (.bool true)], args := [d] }
  | _ => none }
def attrAgainRow : OpenClaim := { program := "ytkcojblflebomaagreat", sum := "45f0e46f4e636e5db1d69cb702bb6b6e7d90b43956cc3eba64496bcea5283ee7", func := "herald/heraldlaw06.AttrAgain", spec := "attrAgain", unfollowed := true, recurses := true, apart := false }
def AttrAgainSaid : Prop := attrAgainRow.holds Tryz.pinned (OpenSpec.ofChange attrAgainSpec)

/-- ITS FALSE NEIGHBOUR: 'it returns false'. Refute it at one input. -/
def attrAgainWrong : ChangeSpec := { name := "attrAgain", fn := fun _ => fun
  | [d] => { results := [.lit (.bool false)], args := [d] }
  | _ => none }
def AttrAgainWrongFalsely : Prop := attrAgainRow.holds Tryz.pinned (OpenSpec.ofChange attrAgainWrong)

/-- 'heraldlaw06.AttrTurned': WHATEVER THE INPUT: true; the input reads as it did. -/
def attrTurnedSpec : ChangeSpec := { name := "attrTurned", fn := fun _ => fun
  | [d1, d2, d3] => { results := [.lit (.bool true)], args := [d1, d2, d3] }
  | _ => none }
def attrTurnedRow : OpenClaim := { program := "ytkcojblflebomaagreat", sum := "45f0e46f4e636e5db1d69cb702bb6b6e7d90b43956cc3eba64496bcea5283ee7", func := "herald/heraldlaw06.AttrTurned", spec := "attrTurned", unfollowed := true, recurses := true, apart := false }
def AttrTurnedSaid : Prop := attrTurnedRow.holds Tryz.pinned (OpenSpec.ofChange attrTurnedSpec)

/-- ITS FALSE NEIGHBOUR: 'it returns false'. Refute it at one input. -/
def attrTurnedWrong : ChangeSpec := { name := "attrTurned", fn := fun _ => fun
  | [d1, d2, d3] => { results := [.lit (.bool false)], args := [d1, d2, d3] }
  | _ => none }
def AttrTurnedWrongFalsely : Prop := attrTurnedRow.holds Tryz.pinned (OpenSpec.ofChange attrTurnedWrong)

/-- 'heraldlaw06.AttrJudged': WHATEVER THE INPUT: true; the input reads as it did. -/
def attrJudgedSpec : ChangeSpec := { name := "attrJudged", fn := fun _ => fun
  | [d1, d2, d3] => { results := [.lit (.bool true)], args := [d1, d2, d3] }
  | _ => none }
def attrJudgedRow : OpenClaim := { program := "ytkcojblflebomaagreat", sum := "45f0e46f4e636e5db1d69cb702bb6b6e7d90b43956cc3eba64496bcea5283ee7", func := "herald/heraldlaw06.AttrJudged", spec := "attrJudged", unfollowed := true, recurses := true, apart := false }
def AttrJudgedSaid : Prop := attrJudgedRow.holds Tryz.pinned (OpenSpec.ofChange attrJudgedSpec)

/-- ITS FALSE NEIGHBOUR: 'it returns false'. Refute it at one input. -/
def attrJudgedWrong : ChangeSpec := { name := "attrJudged", fn := fun _ => fun
  | [d1, d2, d3] => { results := [.lit (.bool false)], args := [d1, d2, d3] }
  | _ => none }
def AttrJudgedWrongFalsely : Prop := attrJudgedRow.holds Tryz.pinned (OpenSpec.ofChange attrJudgedWrong)

/-- 'heraldlaw06.AttrKnown': WHATEVER THE INPUT: true; the input reads as it did. -/
def attrKnownSpec : ChangeSpec := { name := "attrKnown", fn := fun _ => fun
  | [] => { results := [.lit (.bool true)], args := [] }
  | _ => none }
def attrKnownRow : OpenClaim := { program := "ytkcojblflebomaagreat", sum := "45f0e46f4e636e5db1d69cb702bb6b6e7d90b43956cc3eba64496bcea5283ee7", func := "herald/heraldlaw06.AttrKnown", spec := "attrKnown", unfollowed := true, recurses := true, apart := false }
def AttrKnownSaid : Prop := attrKnownRow.holds Tryz.pinned (OpenSpec.ofChange attrKnownSpec)

/-- ITS FALSE NEIGHBOUR: 'it returns false'. Refute it at one input. -/
def attrKnownWrong : ChangeSpec := { name := "attrKnown", fn := fun _ => fun
  | [] => { results := [.lit (.bool false)], args := [] }
  | _ => none }
def AttrKnownWrongFalsely : Prop := attrKnownRow.holds Tryz.pinned (OpenSpec.ofChange attrKnownWrong)

/-- 'heraldlaw06.AttrWrites': WHATEVER THE INPUT: true; the input reads as it did. -/
def attrWritesSpec : ChangeSpec := { name := "attrWrites", fn := fun _ => fun
  | [d1, d2] => { results := [.lit (.bool true)], args := [d1, d2] }
  | _ => none }
def attrWritesRow : OpenClaim := { program := "ytkcojblflebomaagreat", sum := "45f0e46f4e636e5db1d69cb702bb6b6e7d90b43956cc3eba64496bcea5283ee7", func := "herald/heraldlaw06.AttrWrites", spec := "attrWrites", unfollowed := true, recurses := true, apart := false }
def AttrWritesSaid : Prop := attrWritesRow.holds Tryz.pinned (OpenSpec.ofChange attrWritesSpec)

/-- ITS FALSE NEIGHBOUR: 'it returns false'. Refute it at one input. -/
def attrWritesWrong : ChangeSpec := { name := "attrWrites", fn := fun _ => fun
  | [d1, d2] => { results := [.lit (.bool false)], args := [d1, d2] }
  | _ => none }
def AttrWritesWrongFalsely : Prop := attrWritesRow.holds Tryz.pinned (OpenSpec.ofChange attrWritesWrong)

/- THE SECOND FORM. 'bulk': how many values and letters a reading holds, each counted each time it is reached (what is shared counts as often as it is met; a slice's spare places count too). A statement '..UptoSaid' is the law's where the arguments, and the package variables that the reading takes, are together of bulk at most 1048576: NARROWER than '..Said'. Prove '..Said' where nothing that the law and all that it calls make is longer than what came in: it says more and counts as full. Else prove '..UptoSaid'. A law counts once. -/
mutual
def uptoBulk {H : Type} : DataW H → Nat
  | .lit (.string bytes) => bytes.length + 1
  | .lit _ => 1
  | .nil => 1
  | .ptr d => uptoBulk d + 1
  | .slice elems spare => uptoBulkAll elems + uptoBulkAll spare + 1
  | .agg parts => uptoBulkAll parts + 1
  | .iface _ d => uptoBulk d + 1
  | .map entries => uptoBulkEntries entries + 1
  | .held _ => 1
def uptoBulkAll {H : Type} : List (DataW H) → Nat
  | [] => 0
  | d :: r => uptoBulk d + uptoBulkAll r
def uptoBulkEntries {H : Type} : List (Lit × DataW H) → Nat
  | [] => 0
  | x :: r => uptoBulkEntry x + uptoBulkEntries r
def uptoBulkEntry {H : Type} : Lit × DataW H → Nat
  | (.string bytes, d) => bytes.length + uptoBulk d + 1
  | (_, d) => uptoBulk d + 1
 end
def uptoSmall : (H : Type) → List (DataW H) → Bool := fun _ ds => decide (uptoBulkAll ds ≤ 1048576)
def OpenSpec.upto (s : _root_.Go.ChangeSpec) : _root_.Go.OpenSpec := { _root_.Go.OpenSpec.ofChange s with cond := some uptoSmall }

/-- 'heraldlaw06.AttrLays', WHERE WHAT IT READS IS OF BULK AT MOST 1048576: true; the input reads as it did. -/
def attrLaysUptoRow : OpenClaim := { program := "ytkcojblflebomaagreat", sum := "45f0e46f4e636e5db1d69cb702bb6b6e7d90b43956cc3eba64496bcea5283ee7", func := "herald/heraldlaw06.AttrLays", spec := "attrLays", unfollowed := true, recurses := true, apart := false, narrowed := true }
def AttrLaysUptoSaid : Prop := attrLaysUptoRow.holds Tryz.pinned (OpenSpec.upto attrLaysSpec)

/-- 'heraldlaw06.AttrSplits', WHERE WHAT IT READS IS OF BULK AT MOST 1048576: true; the input reads as it did. -/
def attrSplitsUptoRow : OpenClaim := { program := "ytkcojblflebomaagreat", sum := "45f0e46f4e636e5db1d69cb702bb6b6e7d90b43956cc3eba64496bcea5283ee7", func := "herald/heraldlaw06.AttrSplits", spec := "attrSplits", unfollowed := true, recurses := true, apart := false, narrowed := true }
def AttrSplitsUptoSaid : Prop := attrSplitsUptoRow.holds Tryz.pinned (OpenSpec.upto attrSplitsSpec)

/-- 'heraldlaw06.AttrReads', WHERE WHAT IT READS IS OF BULK AT MOST 1048576: true; the input reads as it did. -/
def attrReadsUptoRow : OpenClaim := { program := "ytkcojblflebomaagreat", sum := "45f0e46f4e636e5db1d69cb702bb6b6e7d90b43956cc3eba64496bcea5283ee7", func := "herald/heraldlaw06.AttrReads", spec := "attrReads", unfollowed := true, recurses := true, apart := false, narrowed := true }
def AttrReadsUptoSaid : Prop := attrReadsUptoRow.holds Tryz.pinned (OpenSpec.upto attrReadsSpec)

/-- 'heraldlaw06.AttrSame', WHERE WHAT IT READS IS OF BULK AT MOST 1048576: true; the input reads as it did. -/
def attrSameUptoRow : OpenClaim := { program := "ytkcojblflebomaagreat", sum := "45f0e46f4e636e5db1d69cb702bb6b6e7d90b43956cc3eba64496bcea5283ee7", func := "herald/heraldlaw06.AttrSame", spec := "attrSame", unfollowed := true, recurses := true, apart := false, narrowed := true }
def AttrSameUptoSaid : Prop := attrSameUptoRow.holds Tryz.pinned (OpenSpec.upto attrSameSpec)

/-- 'heraldlaw06.AttrBack', WHERE WHAT IT READS IS OF BULK AT MOST 1048576: true; the input reads as it did. -/
def attrBackUptoRow : OpenClaim := { program := "ytkcojblflebomaagreat", sum := "45f0e46f4e636e5db1d69cb702bb6b6e7d90b43956cc3eba64496bcea5283ee7", func := "herald/heraldlaw06.AttrBack", spec := "attrBack", unfollowed := true, recurses := true, apart := false, narrowed := true }
def AttrBackUptoSaid : Prop := attrBackUptoRow.holds Tryz.pinned (OpenSpec.upto attrBackSpec)

/-- 'heraldlaw06.AttrAgain', WHERE WHAT IT READS IS OF BULK AT MOST 1048576: true; the input reads as it did. -/
def attrAgainUptoRow : OpenClaim := { program := "ytkcojblflebomaagreat", sum := "45f0e46f4e636e5db1d69cb702bb6b6e7d90b43956cc3eba64496bcea5283ee7", func := "herald/heraldlaw06.AttrAgain", spec := "attrAgain", unfollowed := true, recurses := true, apart := false, narrowed := true }
def AttrAgainUptoSaid : Prop := attrAgainUptoRow.holds Tryz.pinned (OpenSpec.upto attrAgainSpec)

/-- 'heraldlaw06.AttrTurned', WHERE WHAT IT READS IS OF BULK AT MOST 1048576: true; the input reads as it did. -/
def attrTurnedUptoRow : OpenClaim := { program := "ytkcojblflebomaagreat", sum := "45f0e46f4e636e5db1d69cb702bb6b6e7d90b43956cc3eba64496bcea5283ee7", func := "herald/heraldlaw06.AttrTurned", spec := "attrTurned", unfollowed := true, recurses := true, apart := false, narrowed := true }
def AttrTurnedUptoSaid : Prop := attrTurnedUptoRow.holds Tryz.pinned (OpenSpec.upto attrTurnedSpec)

/-- 'heraldlaw06.AttrJudged', WHERE WHAT IT READS IS OF BULK AT MOST 1048576: true; the input reads as it did. -/
def attrJudgedUptoRow : OpenClaim := { program := "ytkcojblflebomaagreat", sum := "45f0e46f4e636e5db1d69cb702bb6b6e7d90b43956cc3eba64496bcea5283ee7", func := "herald/heraldlaw06.AttrJudged", spec := "attrJudged", unfollowed := true, recurses := true, apart := false, narrowed := true }
def AttrJudgedUptoSaid : Prop := attrJudgedUptoRow.holds Tryz.pinned (OpenSpec.upto attrJudgedSpec)

/-- 'heraldlaw06.AttrKnown', WHERE WHAT IT READS IS OF BULK AT MOST 1048576: true; the input reads as it did. -/
def attrKnownUptoRow : OpenClaim := { program := "ytkcojblflebomaagreat", sum := "45f0e46f4e636e5db1d69cb702bb6b6e7d90b43956cc3eba64496bcea5283ee7", func := "herald/heraldlaw06.AttrKnown", spec := "attrKnown", unfollowed := true, recurses := true, apart := false, narrowed := true }
def AttrKnownUptoSaid : Prop := attrKnownUptoRow.holds Tryz.pinned (OpenSpec.upto attrKnownSpec)

/-- 'heraldlaw06.AttrWrites', WHERE WHAT IT READS IS OF BULK AT MOST 1048576: true; the input reads as it did. -/
def attrWritesUptoRow : OpenClaim := { program := "ytkcojblflebomaagreat", sum := "45f0e46f4e636e5db1d69cb702bb6b6e7d90b43956cc3eba64496bcea5283ee7", func := "herald/heraldlaw06.AttrWrites", spec := "attrWrites", unfollowed := true, recurses := true, apart := false, narrowed := true }
def AttrWritesUptoSaid : Prop := attrWritesUptoRow.holds Tryz.pinned (OpenSpec.upto attrWritesSpec)

end Rows
end Go.Proofs.YtkcojblflebomaaGreat
