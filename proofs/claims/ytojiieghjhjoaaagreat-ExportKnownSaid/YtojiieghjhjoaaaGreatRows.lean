/-
  No cell of these rows narrows 'for every input' (looked for: loops, veiled, ifaces, maps, wideKeys, modest, calm, conditions, laid).
  DERIVED. THE GIVEN ROWS OF THIS SEAT. 6 by the template 'for every input the law returns true; each argument reads behind the call as it read before'; 0 by the template 'total and deterministic' (their statements: YtojiieghjhjoaaaGreatTotals.lean).
  GIVEN WITH THE SEED: the statements are not yours to turn. If you find one false, say at which input.
  Laid BY PROGRAM, IN A SANDBOX (cutbox-rows.mjs): the forced cells as the released guide's own fill.sh prints them over the translation 88eec3d52d744205… (all of the seat's roots in one cut). By AI agents, Wed Nov 11 2026. No macro, syntax, notation, axiom, sorry.
-/
import Derived.Test.YtojiieghjhjoaaaGreatChecked
import GoSem.Claim
import GoSem.ClaimJoined
import GoSem.ClaimMapViews
import Derived.JoinedTies
import Derived.KernelRfl
namespace Go.Proofs.YtojiieghjhjoaaaGreat
/- THE CELL 'sum', in the pinned program and in every row, IS THE sha256 OF THE DUMP (.gsa) THAT YtojiieghjhjoaaaGreatProg.lean LOADS. Nothing in Lean hashes anything: it is a label: what it is worth is what the hold of that sum in a sandbox is worth. -/
noncomputable def Tryz.pinned : Pinned := { name := "ytojiieghjhjoaaagreat", sum := "88eec3d52d7442059a2b35594a142e76d68aba9a85450e27180f3067c4a1d58d", checked := Tryz.checked }
namespace Rows
def none {H : Type} : Left H := { results := [], args := [] }

/-- 'heraldlaw28.ExportMay': WHATEVER THE INPUT: true; the input reads as it did. -/
def exportMaySpec : ChangeSpec := { name := "exportMay", fn := fun _ => fun
  | [d1, d2, d3] => { results := [.lit (.bool true)], args := [d1, d2, d3] }
  | _ => none }
def exportMayRow : OpenClaim := { program := "ytojiieghjhjoaaagreat", sum := "88eec3d52d7442059a2b35594a142e76d68aba9a85450e27180f3067c4a1d58d", func := "herald/heraldlaw28.ExportMay", spec := "exportMay", inPlace := ["slices.overlaps[uint32]", "slices.overlaps[herald/api.Seg]"], unfollowed := true, recurses := true, apart := false }
def ExportMaySaid : Prop := exportMayRow.holds Tryz.pinned (OpenSpec.ofChange exportMaySpec)

/-- ITS FALSE NEIGHBOUR: 'it returns false'. Refute it at one input. -/
def exportMayWrong : ChangeSpec := { name := "exportMay", fn := fun _ => fun
  | [d1, d2, d3] => { results := [.lit (.bool false)], args := [d1, d2, d3] }
  | _ => none }
def ExportMayWrongFalsely : Prop := exportMayRow.holds Tryz.pinned (OpenSpec.ofChange exportMayWrong)

/-- 'heraldlaw28.ExportAttrs': WHATEVER THE INPUT: true; the input reads as it did. -/
def exportAttrsSpec : ChangeSpec := { name := "exportAttrs", fn := fun _ => fun
  | [d1, d2, d3] => { results := [.lit (.bool true)], args := [d1, d2, d3] }
  | _ => none }
def exportAttrsRow : OpenClaim := { program := "ytojiieghjhjoaaagreat", sum := "88eec3d52d7442059a2b35594a142e76d68aba9a85450e27180f3067c4a1d58d", func := "herald/heraldlaw28.ExportAttrs", spec := "exportAttrs", inPlace := ["slices.overlaps[uint32]", "slices.overlaps[herald/api.Seg]"], unfollowed := true, recurses := true, apart := false }
def ExportAttrsSaid : Prop := exportAttrsRow.holds Tryz.pinned (OpenSpec.ofChange exportAttrsSpec)

/-- ITS FALSE NEIGHBOUR: 'it returns false'. Refute it at one input. -/
def exportAttrsWrong : ChangeSpec := { name := "exportAttrs", fn := fun _ => fun
  | [d1, d2, d3] => { results := [.lit (.bool false)], args := [d1, d2, d3] }
  | _ => none }
def ExportAttrsWrongFalsely : Prop := exportAttrsRow.holds Tryz.pinned (OpenSpec.ofChange exportAttrsWrong)

/-- 'heraldlaw28.ExportNotBack': WHATEVER THE INPUT: true; the input reads as it did. -/
def exportNotBackSpec : ChangeSpec := { name := "exportNotBack", fn := fun _ => fun
  | [d1, d2, d3] => { results := [.lit (.bool true)], args := [d1, d2, d3] }
  | _ => none }
def exportNotBackRow : OpenClaim := { program := "ytojiieghjhjoaaagreat", sum := "88eec3d52d7442059a2b35594a142e76d68aba9a85450e27180f3067c4a1d58d", func := "herald/heraldlaw28.ExportNotBack", spec := "exportNotBack", inPlace := ["slices.overlaps[uint32]", "slices.overlaps[herald/api.Seg]"], unfollowed := true, recurses := true, apart := false }
def ExportNotBackSaid : Prop := exportNotBackRow.holds Tryz.pinned (OpenSpec.ofChange exportNotBackSpec)

/-- ITS FALSE NEIGHBOUR: 'it returns false'. Refute it at one input. -/
def exportNotBackWrong : ChangeSpec := { name := "exportNotBack", fn := fun _ => fun
  | [d1, d2, d3] => { results := [.lit (.bool false)], args := [d1, d2, d3] }
  | _ => none }
def ExportNotBackWrongFalsely : Prop := exportNotBackRow.holds Tryz.pinned (OpenSpec.ofChange exportNotBackWrong)

/-- 'heraldlaw28.ExportKnown': WHATEVER THE INPUT: true; the input reads as it did. -/
def exportKnownSpec : ChangeSpec := { name := "exportKnown", fn := fun _ => fun
  | [] => { results := [.lit (.bool true)], args := [] }
  | _ => none }
def exportKnownRow : OpenClaim := { program := "ytojiieghjhjoaaagreat", sum := "88eec3d52d7442059a2b35594a142e76d68aba9a85450e27180f3067c4a1d58d", func := "herald/heraldlaw28.ExportKnown", spec := "exportKnown", inPlace := ["slices.overlaps[uint32]", "slices.overlaps[herald/api.Seg]"], unfollowed := true, recurses := true, apart := false }
def ExportKnownSaid : Prop := exportKnownRow.holds Tryz.pinned (OpenSpec.ofChange exportKnownSpec)

/-- ITS FALSE NEIGHBOUR: 'it returns false'. Refute it at one input. -/
def exportKnownWrong : ChangeSpec := { name := "exportKnown", fn := fun _ => fun
  | [] => { results := [.lit (.bool false)], args := [] }
  | _ => none }
def ExportKnownWrongFalsely : Prop := exportKnownRow.holds Tryz.pinned (OpenSpec.ofChange exportKnownWrong)

/-- 'heraldlaw28.ExportInside': WHATEVER THE INPUT: true; the input reads as it did. -/
def exportInsideSpec : ChangeSpec := { name := "exportInside", fn := fun _ => fun
  | [d1, d2, d3] => { results := [.lit (.bool true)], args := [d1, d2, d3] }
  | _ => none }
def exportInsideRow : OpenClaim := { program := "ytojiieghjhjoaaagreat", sum := "88eec3d52d7442059a2b35594a142e76d68aba9a85450e27180f3067c4a1d58d", func := "herald/heraldlaw28.ExportInside", spec := "exportInside", inPlace := ["slices.overlaps[uint32]", "slices.overlaps[herald/api.Seg]"], unfollowed := true, recurses := true, apart := false }
def ExportInsideSaid : Prop := exportInsideRow.holds Tryz.pinned (OpenSpec.ofChange exportInsideSpec)

/-- ITS FALSE NEIGHBOUR: 'it returns false'. Refute it at one input. -/
def exportInsideWrong : ChangeSpec := { name := "exportInside", fn := fun _ => fun
  | [d1, d2, d3] => { results := [.lit (.bool false)], args := [d1, d2, d3] }
  | _ => none }
def ExportInsideWrongFalsely : Prop := exportInsideRow.holds Tryz.pinned (OpenSpec.ofChange exportInsideWrong)

/-- 'heraldlaw28.ExportOutside': WHATEVER THE INPUT: true; the input reads as it did. -/
def exportOutsideSpec : ChangeSpec := { name := "exportOutside", fn := fun _ => fun
  | [d1, d2, d3] => { results := [.lit (.bool true)], args := [d1, d2, d3] }
  | _ => none }
def exportOutsideRow : OpenClaim := { program := "ytojiieghjhjoaaagreat", sum := "88eec3d52d7442059a2b35594a142e76d68aba9a85450e27180f3067c4a1d58d", func := "herald/heraldlaw28.ExportOutside", spec := "exportOutside", inPlace := ["slices.overlaps[uint32]", "slices.overlaps[herald/api.Seg]"], unfollowed := true, recurses := true, apart := false }
def ExportOutsideSaid : Prop := exportOutsideRow.holds Tryz.pinned (OpenSpec.ofChange exportOutsideSpec)

/-- ITS FALSE NEIGHBOUR: 'it returns false'. Refute it at one input. -/
def exportOutsideWrong : ChangeSpec := { name := "exportOutside", fn := fun _ => fun
  | [d1, d2, d3] => { results := [.lit (.bool false)], args := [d1, d2, d3] }
  | _ => none }
def ExportOutsideWrongFalsely : Prop := exportOutsideRow.holds Tryz.pinned (OpenSpec.ofChange exportOutsideWrong)

/- THE SECOND FORM. 'bulk': how many values and letters a reading holds, each counted each time it is reached (what is shared counts as often as it is met; a slice's spare places count too). A statement '..UptoSaid' is the law's where the arguments, and the package variables that the reading takes, are together of bulk at most 1048576: NARROWER than '..Said'. Prove '..Said' where nothing that the law and all that it calls make is longer than what came in: it says more and counts as full. Else prove '..UptoSaid'. A law counts once. -/
mutual
def uptoBulk {H : Type} : DataW H → Nat
  | .lit (.string bytes) => bytes.length + 1
  | .lit _ => 1
  | .nil => 1
  | .ptr d => uptoBulk d + 1
  | .slice elems spare => uptoBulkAll elems + uptoBulkAll spare + 1
  | .agg parts => uptoBulkAll parts + 1
  | .iface _ d => uptoBulk d + 1
  | .map entries => uptoBulkEntries entries + 1
  | .held _ => 1
def uptoBulkAll {H : Type} : List (DataW H) → Nat
  | [] => 0
  | d :: r => uptoBulk d + uptoBulkAll r
def uptoBulkEntries {H : Type} : List (Lit × DataW H) → Nat
  | [] => 0
  | x :: r => uptoBulkEntry x + uptoBulkEntries r
def uptoBulkEntry {H : Type} : Lit × DataW H → Nat
  | (.string bytes, d) => bytes.length + uptoBulk d + 1
  | (_, d) => uptoBulk d + 1
 end
def uptoSmall : (H : Type) → List (DataW H) → Bool := fun _ ds => decide (uptoBulkAll ds ≤ 1048576)
def OpenSpec.upto (s : _root_.Go.ChangeSpec) : _root_.Go.OpenSpec := { _root_.Go.OpenSpec.ofChange s with cond := some uptoSmall }

/-- 'heraldlaw28.ExportMay', WHERE WHAT IT READS IS OF BULK AT MOST 1048576: true; the input reads as it did. -/
def exportMayUptoRow : OpenClaim := { program := "ytojiieghjhjoaaagreat", sum := "88eec3d52d7442059a2b35594a142e76d68aba9a85450e27180f3067c4a1d58d", func := "herald/heraldlaw28.ExportMay", spec := "exportMay", inPlace := ["slices.overlaps[uint32]", "slices.overlaps[herald/api.Seg]"], unfollowed := true, recurses := true, apart := false, narrowed := true }
def ExportMayUptoSaid : Prop := exportMayUptoRow.holds Tryz.pinned (OpenSpec.upto exportMaySpec)

/-- 'heraldlaw28.ExportAttrs', WHERE WHAT IT READS IS OF BULK AT MOST 1048576: true; the input reads as it did. -/
def exportAttrsUptoRow : OpenClaim := { program := "ytojiieghjhjoaaagreat", sum := "88eec3d52d7442059a2b35594a142e76d68aba9a85450e27180f3067c4a1d58d", func := "herald/heraldlaw28.ExportAttrs", spec := "exportAttrs", inPlace := ["slices.overlaps[uint32]", "slices.overlaps[herald/api.Seg]"], unfollowed := true, recurses := true, apart := false, narrowed := true }
def ExportAttrsUptoSaid : Prop := exportAttrsUptoRow.holds Tryz.pinned (OpenSpec.upto exportAttrsSpec)

/-- 'heraldlaw28.ExportNotBack', WHERE WHAT IT READS IS OF BULK AT MOST 1048576: true; the input reads as it did. -/
def exportNotBackUptoRow : OpenClaim := { program := "ytojiieghjhjoaaagreat", sum := "88eec3d52d7442059a2b35594a142e76d68aba9a85450e27180f3067c4a1d58d", func := "herald/heraldlaw28.ExportNotBack", spec := "exportNotBack", inPlace := ["slices.overlaps[uint32]", "slices.overlaps[herald/api.Seg]"], unfollowed := true, recurses := true, apart := false, narrowed := true }
def ExportNotBackUptoSaid : Prop := exportNotBackUptoRow.holds Tryz.pinned (OpenSpec.upto exportNotBackSpec)

/-- 'heraldlaw28.ExportKnown', WHERE WHAT IT READS IS OF BULK AT MOST 1048576: true; the input reads as it did. -/
def exportKnownUptoRow : OpenClaim := { program := "ytojiieghjhjoaaagreat", sum := "88eec3d52d7442059a2b35594a142e76d68aba9a85450e27180f3067c4a1d58d", func := "herald/heraldlaw28.ExportKnown", spec := "exportKnown", inPlace := ["slices.overlaps[uint32]", "slices.overlaps[herald/api.Seg]"], unfollowed := true, recurses := true, apart := false, narrowed := true }
def ExportKnownUptoSaid : Prop := exportKnownUptoRow.holds Tryz.pinned (OpenSpec.upto exportKnownSpec)

/-- 'heraldlaw28.ExportInside', WHERE WHAT IT READS IS OF BULK AT MOST 1048576: true; the input reads as it did. -/
def exportInsideUptoRow : OpenClaim := { program := "ytojiieghjhjoaaagreat", sum := "88eec3d52d7442059a2b35594a142e76d68aba9a85450e27180f3067c4a1d58d", func := "herald/heraldlaw28.ExportInside", spec := "exportInside", inPlace := ["slices.overlaps[uint32]", "slices.overlaps[herald/api.Seg]"], unfollowed := true, recurses := true, apart := false, narrowed := true }
def ExportInsideUptoSaid : Prop := exportInsideUptoRow.holds Tryz.pinned (OpenSpec.upto exportInsideSpec)

/-- 'heraldlaw28.ExportOutside', WHERE WHAT IT READS IS OF BULK AT MOST 1048576: true; the input reads as it did. -/
def exportOutsideUptoRow : OpenClaim := { program := "ytojiieghjhjoaaagreat", sum := "88eec3d52d7442059a2b35594a142e76d68aba9a85450e27180f3067c4a1d58d", func := "herald/heraldlaw28.ExportOutside", spec := "exportOutside", inPlace := ["slices.overlaps[uint32]", "slices.overlaps[herald/api.Seg]"], unfollowed := true, recurses := true, apart := false, narrowed := true }
def ExportOutsideUptoSaid : Prop := exportOutsideUptoRow.holds Tryz.pinned (OpenSpec.upto exportOutsideSpec)

end Rows
end Go.Proofs.YtojiieghjhjoaaaGreat
