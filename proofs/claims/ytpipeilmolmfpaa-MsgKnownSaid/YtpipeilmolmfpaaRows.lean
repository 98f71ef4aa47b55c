/-
  No cell of these rows narrows 'for every input' (looked for: loops, veiled, ifaces, maps, wideKeys, modest, calm, conditions, laid).
  DERIVED. THE GIVEN ROWS OF THIS SEAT. 7 by the template 'for every input the law returns true; each argument reads behind the call as it read before'; 0 by the template 'total and deterministic' (their statements: YtpipeilmolmfpaaTotals.lean).
  GIVEN WITH THE SEED: the statements are not yours to turn. If you find one false, say at which input.
  Laid BY PROGRAM, IN A SANDBOX (cutbox-rows.mjs): the forced cells as the released guide's own fill.sh prints them over the translation 89cf4418a1d73243… (all of the seat's roots in one cut). By AI agents, Wed Nov 11 2026. No macro, syntax, notation, axiom, sorry.
-/
import Derived.Test.YtpipeilmolmfpaaChecked
import GoSem.Claim
import GoSem.ClaimJoined
import GoSem.ClaimMapViews
import Derived.JoinedTies
import Derived.KernelRfl
namespace Go.Proofs.Ytpipeilmolmfpaa
/- THE CELL 'sum', in the pinned program and in every row, IS THE sha256 OF THE DUMP (.gsa) THAT YtpipeilmolmfpaaProg.lean LOADS. Nothing in Lean hashes anything: it is a label: what it is worth is what the hold of that sum in a sandbox is worth. -/
noncomputable def Try.pinned : Pinned := { name := "ytpipeilmolmfpaa", sum := "89cf4418a1d73243f89ffbf70e627208d7bb97c021f705e53c7bfe228d765bb1", checked := Try.checked }
namespace Rows
def none {H : Type} : Left H := { results := [], args := [] }

/-- 'heraldlaw12.MsgSizes': WHATEVER THE INPUT: true; the input reads as it did. -/
def msgSizesSpec : ChangeSpec := { name := "msgSizes", fn := fun _ => fun
  | [d1, d2] => { results := [.lit (.bool true)], args := [d1, d2] }
  | _ => none }
def msgSizesRow : OpenClaim := { program := "ytpipeilmolmfpaa", sum := "89cf4418a1d73243f89ffbf70e627208d7bb97c021f705e53c7bfe228d765bb1", func := "herald/heraldlaw12.MsgSizes", spec := "msgSizes", unfollowed := true, recurses := true, apart := false }
def MsgSizesSaid : Prop := msgSizesRow.holds Try.pinned (OpenSpec.ofChange msgSizesSpec)

/-- ITS FALSE NEIGHBOUR: 'it returns false'. Refute it at one input. -/
def msgSizesWrong : ChangeSpec := { name := "msgSizes", fn := fun _ => fun
  | [d1, d2] => { results := [.lit (.bool false)], args := [d1, d2] }
  | _ => none }
def MsgSizesWrongFalsely : Prop := msgSizesRow.holds Try.pinned (OpenSpec.ofChange msgSizesWrong)

/-- 'heraldlaw12.MsgNotes': WHATEVER THE INPUT: true; the input reads as it did. -/
def msgNotesSpec : ChangeSpec := { name := "msgNotes", fn := fun _ => fun
  | [d1, d2, d3] => { results := [.lit (.bool true)], args := [d1, d2, d3] }
  | _ => none }
def msgNotesRow : OpenClaim := { program := "ytpipeilmolmfpaa", sum := "89cf4418a1d73243f89ffbf70e627208d7bb97c021f705e53c7bfe228d765bb1", func := "herald/heraldlaw12.MsgNotes", spec := "msgNotes", unfollowed := true, recurses := true, apart := false }
def MsgNotesSaid : Prop := msgNotesRow.holds Try.pinned (OpenSpec.ofChange msgNotesSpec)

/-- ITS FALSE NEIGHBOUR: 'it returns false'. Refute it at one input. -/
def msgNotesWrong : ChangeSpec := { name := "msgNotes", fn := fun _ => fun
  | [d1, d2, d3] => { results := [.lit (.bool false)], args := [d1, d2, d3] }
  | _ => none }
def MsgNotesWrongFalsely : Prop := msgNotesRow.holds Try.pinned (OpenSpec.ofChange msgNotesWrong)

/-- 'heraldlaw12.MsgTold': WHATEVER THE INPUT: true; the input reads as it did. -/
def msgToldSpec : ChangeSpec := { name := "msgTold", fn := fun _ => fun
  | [d] => { results := [.lit (.bool true)], args := [d] }
  | _ => none }
def msgToldRow : OpenClaim := { program := "ytpipeilmolmfpaa", sum := "89cf4418a1d73243f89ffbf70e627208d7bb97c021f705e53c7bfe228d765bb1", func := "herald/heraldlaw12.MsgTold", spec := "msgTold", unfollowed := true, recurses := true, apart := false }
def MsgToldSaid : Prop := msgToldRow.holds Try.pinned (OpenSpec.ofChange msgToldSpec)

/-- ITS FALSE NEIGHBOUR: 'it returns false'. Refute it at one input. -/
def msgToldWrong : ChangeSpec := { name := "msgTold", fn := fun _ => fun
  | [d] => { results := [.lit (.bool false)], args := [d] }
  | _ => none }
def MsgToldWrongFalsely : Prop := msgToldRow.holds Try.pinned (OpenSpec.ofChange msgToldWrong)

/-- 'heraldlaw12.MsgRefreshes': WHATEVER THE INPUT: true; the input reads as it did. -/
def msgRefreshesSpec : ChangeSpec := { name := "msgRefreshes", fn := fun _ => fun
  | [d1, d2] => { results := [.lit (.bool true)], args := [d1, d2] }
  | _ => none }
def msgRefreshesRow : OpenClaim := { program := "ytpipeilmolmfpaa", sum := "89cf4418a1d73243f89ffbf70e627208d7bb97c021f705e53c7bfe228d765bb1", func := "herald/heraldlaw12.MsgRefreshes", spec := "msgRefreshes", unfollowed := true, recurses := true, apart := false }
def MsgRefreshesSaid : Prop := msgRefreshesRow.holds Try.pinned (OpenSpec.ofChange msgRefreshesSpec)

/-- ITS FALSE NEIGHBOUR: 'it returns false'. Refute it at one input. -/
def msgRefreshesWrong : ChangeSpec := { name := "msgRefreshes", fn := fun _ => fun
  | [d1, d2] => { results := [.lit (.bool false)], args := [d1, d2] }
  | _ => none }
def MsgRefreshesWrongFalsely : Prop := msgRefreshesRow.holds Try.pinned (OpenSpec.ofChange msgRefreshesWrong)

/-- 'heraldlaw12.MsgBack': WHATEVER THE INPUT: true; the input reads as it did. -/
def msgBackSpec : ChangeSpec := { name := "msgBack", fn := fun _ => fun
  | [d1, d2] => { results := [.lit (.bool true)], args := [d1, d2] }
  | _ => none }
def msgBackRow : OpenClaim := { program := "ytpipeilmolmfpaa", sum := "89cf4418a1d73243f89ffbf70e627208d7bb97c021f705e53c7bfe228d765bb1", func := "herald/heraldlaw12.MsgBack", spec := "msgBack", unfollowed := true, recurses := true, apart := false }
def MsgBackSaid : Prop := msgBackRow.holds Try.pinned (OpenSpec.ofChange msgBackSpec)

/-- ITS FALSE NEIGHBOUR: 'it returns false'. Refute it at one input. -/
def msgBackWrong : ChangeSpec := { name := "msgBack", fn := fun _ => fun
  | [d1, d2] => { results := [.lit (.bool false)], args := [d1, d2] }
  | _ => none }
def MsgBackWrongFalsely : Prop := msgBackRow.holds Try.pinned (OpenSpec.ofChange msgBackWrong)

/-- 'heraldlaw12.MsgAgain': WHATEVER THE INPUT: true; the input reads as it did. -/
def msgAgainSpec : ChangeSpec := { name := "msgAgain", fn := fun _ => fun
  | [d] => { results := [.lit (.bool true)], args := [d] }
  | _ => none }
def msgAgainRow : OpenClaim := { program := "ytpipeilmolmfpaa", sum := "89cf4418a1d73243f89ffbf70e627208d7bb97c021f705e53c7bfe228d765bb1", func := "herald/heraldlaw12.MsgAgain", spec := "msgAgain", unfollowed := true, recurses := true, apart := false }
def MsgAgainSaid : Prop := msgAgainRow.holds Try.pinned (OpenSpec.ofChange msgAgainSpec)

/-- ITS FALSE NEIGHBOUR: 'it returns false'. Refute it at one input. -/
def msgAgainWrong : ChangeSpec := { name := "msgAgain", fn := fun _ => fun
  | [d] => { results := [.lit (.bool false)], args := [d] }
  | _ => none }
def MsgAgainWrongFalsely : Prop := msgAgainRow.holds Try.pinned (OpenSpec.ofChange msgAgainWrong)

/-- 'heraldlaw12.MsgKnown': WHATEVER THE INPUT: true; the input reads as it did. -/
def msgKnownSpec : ChangeSpec := { name := "msgKnown", fn := fun _ => fun
  | [] => { results := [.lit (.bool true)], args := [] }
  | _ => none }
def msgKnownRow : OpenClaim := { program := "ytpipeilmolmfpaa", sum := "89cf4418a1d73243f89ffbf70e627208d7bb97c021f705e53c7bfe228d765bb1", func := "herald/heraldlaw12.MsgKnown", spec := "msgKnown", unfollowed := true, recurses := true, apart := false }
def MsgKnownSaid : Prop := msgKnownRow.holds Try.pinned (OpenSpec.ofChange msgKnownSpec)

/-- ITS FALSE NEIGHBOUR: 'it returns false'. Refute it at one input. -/
def msgKnownWrong : ChangeSpec := { name := "msgKnown", fn := fun _ => fun
  | [] => { results := [.lit (.bool false)], args := [] }
  | _ => none }
def MsgKnownWrongFalsely : Prop := msgKnownRow.holds Try.pinned (OpenSpec.ofChange msgKnownWrong)

/- THE SECOND FORM. 'bulk': how many values and letters a reading holds, each counted each time it is reached (what is shared counts as often as it is met; a slice's spare places count too). A statement '..UptoSaid' is the law's where the arguments, and the package variables that the reading takes, are together of bulk at most 1048576: NARROWER than '..Said'. Prove '..Said' where nothing that the law and all that it calls make is longer than what came in: it says more and counts as full. Else prove '..UptoSaid'. A law counts once. -/
mutual
def uptoBulk {H : Type} : DataW H → Nat
  | .lit (.string bytes) => bytes.length + 1
  | .lit _ => 1
  | .nil => 1
  | .ptr d => uptoBulk d + 1
  | .slice elems spare => uptoBulkAll elems + uptoBulkAll spare + 1
  | .agg parts => uptoBulkAll parts + 1
  | .iface _ d => uptoBulk d + 1
  | .map entries => uptoBulkEntries entries + 1
  | .held _ => 1
def uptoBulkAll {H : Type} : List (DataW H) → Nat
  | [] => 0
  | d :: r => uptoBulk d + uptoBulkAll r
def uptoBulkEntries {H : Type} : List (Lit × DataW H) → Nat
  | [] => 0
  | x :: r => uptoBulkEntry x + uptoBulkEntries r
def uptoBulkEntry {H : Type} : Lit × DataW H → Nat
  | (.string bytes, d) => bytes.length + uptoBulk d + 1
  | (_, d) => uptoBulk d + 1
 end
def uptoSmall : (H : Type) → List (DataW H) → Bool := fun _ ds => decide (uptoBulkAll ds ≤ 1048576)
def OpenSpec.upto (s : _root_.Go.ChangeSpec) : _root_.Go.OpenSpec := { _root_.Go.OpenSpec.ofChange s with cond := some uptoSmall }

/-- 'heraldlaw12.MsgSizes', WHERE WHAT IT READS IS OF BULK AT MOST 1048576: true; the input reads as it did. -/
def msgSizesUptoRow : OpenClaim := { program := "ytpipeilmolmfpaa", sum := "89cf4418a1d73243f89ffbf70e627208d7bb97c021f705e53c7bfe228d765bb1", func := "herald/heraldlaw12.MsgSizes", spec := "msgSizes", unfollowed := true, recurses := true, apart := false, narrowed := true }
def MsgSizesUptoSaid : Prop := msgSizesUptoRow.holds Try.pinned (OpenSpec.upto msgSizesSpec)

/-- 'heraldlaw12.MsgNotes', WHERE WHAT IT READS IS OF BULK AT MOST 1048576: true; the input reads as it did. -/
def msgNotesUptoRow : OpenClaim := { program := "ytpipeilmolmfpaa", sum := "89cf4418a1d73243f89ffbf70e627208d7bb97c021f705e53c7bfe228d765bb1", func := "herald/heraldlaw12.MsgNotes", spec := "msgNotes", unfollowed := true, recurses := true, apart := false, narrowed := true }
def MsgNotesUptoSaid : Prop := msgNotesUptoRow.holds Try.pinned (OpenSpec.upto msgNotesSpec)

/-- 'heraldlaw12.MsgTold', WHERE WHAT IT READS IS OF BULK AT MOST 1048576: true; the input reads as it did. -/
def msgToldUptoRow : OpenClaim := { program := "ytpipeilmolmfpaa", sum := "89cf4418a1d73243f89ffbf70e627208d7bb97c021f705e53c7bfe228d765bb1", func := "herald/heraldlaw12.MsgTold", spec := "msgTold", unfollowed := true, recurses := true, apart := false, narrowed := true }
def MsgToldUptoSaid : Prop := msgToldUptoRow.holds Try.pinned (OpenSpec.upto msgToldSpec)

/-- 'heraldlaw12.MsgRefreshes', WHERE WHAT IT READS IS OF BULK AT MOST 1048576: true; the input reads as it did. -/
def msgRefreshesUptoRow : OpenClaim := { program := "ytpipeilmolmfpaa", sum := "89cf4418a1d73243f89ffbf70e627208d7bb97c021f705e53c7bfe228d765bb1", func := "herald/heraldlaw12.MsgRefreshes", spec := "msgRefreshes", unfollowed := true, recurses := true, apart := false, narrowed := true }
def MsgRefreshesUptoSaid : Prop := msgRefreshesUptoRow.holds Try.pinned (OpenSpec.upto msgRefreshesSpec)

/-- 'heraldlaw12.MsgBack', WHERE WHAT IT READS IS OF BULK AT MOST 1048576: true; the input reads as it did. -/
def msgBackUptoRow : OpenClaim := { program := "ytpipeilmolmfpaa", sum := "89cf4418a1d73243f89ffbf70e627208d7bb97c021f705e53c7bfe228d765bb1", func := "herald/heraldlaw12.MsgBack", spec := "msgBack", unfollowed := true, recurses := true, apart := false, narrowed := true }
def MsgBackUptoSaid : Prop := msgBackUptoRow.holds Try.pinned (OpenSpec.upto msgBackSpec)

/-- 'heraldlaw12.MsgAgain', WHERE WHAT IT READS IS OF BULK AT MOST 1048576: true; the input reads as it did. -/
def msgAgainUptoRow : OpenClaim := { program := "ytpipeilmolmfpaa", sum := "89cf4418a1d73243f89ffbf70e627208d7bb97c021f705e53c7bfe228d765bb1", func := "herald/heraldlaw12.MsgAgain", spec := "msgAgain", unfollowed := true, recurses := true, apart := false, narrowed := true }
def MsgAgainUptoSaid : Prop := msgAgainUptoRow.holds Try.pinned (OpenSpec.upto msgAgainSpec)

/-- 'heraldlaw12.MsgKnown', WHERE WHAT IT READS IS OF BULK AT MOST 1048576: true; the input reads as it did. -/
def msgKnownUptoRow : OpenClaim := { program := "ytpipeilmolmfpaa", sum := "89cf4418a1d73243f89ffbf70e627208d7bb97c021f705e53c7bfe228d765bb1", func := "herald/heraldlaw12.MsgKnown", spec := "msgKnown", unfollowed := true, recurses := true, apart := false, narrowed := true }
def MsgKnownUptoSaid : Prop := msgKnownUptoRow.holds Try.pinned (OpenSpec.upto msgKnownSpec)

end Rows
end Go.Proofs.Ytpipeilmolmfpaa
