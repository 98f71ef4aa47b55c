/-
  Several texts in one.
-/
import Derived.Test.YtldpcliahfiloaaMR53
set_option linter.unusedVariables false
set_option linter.unusedSimpArgs false
namespace Go.Proofs.Ytldpcliahfiloaa
open Go.RowKit Go.MapKept Go.Shelf
open Go.Lib hiding intOf

set_option maxRecDepth 100000 in
set_option maxHeartbeats 16000000 in
theorem same_any (a b : Atr) (w : World) (h1 : AtrOk w a) (h2 : AtrOk w b) :
    Calls Try.prog 15 #[a.v, b.v] w fun e w' => e = .returned (.bool (decide (a.c = b.c))) ∧ Below w.heap.size w w' := by
  have HB0 : Hid (Below w.heap.size w ((w.alloc (.cells a.ar 41)).alloc (.cells b.ar 41))) := ((Below.refl _ _).alloc (Nat.le_refl _) _).alloc (by simp) _
  have HC0 : Hid (CellsAt ((w.alloc (.cells a.ar 41)).alloc (.cells b.ar 41)) w.heap.size a.ar 41) := (CellsAt.new _ _ _).alloc _
  have HD0 : Hid (CellsAt ((w.alloc (.cells a.ar 41)).alloc (.cells b.ar 41)) (w.heap.size + 1) b.ar 41) := by
    have h := CellsAt.new (w.alloc (.cells a.ar 41)) b.ar 41
    rwa [show (w.alloc (.cells a.ar 41)).heap.size = w.heap.size + 1 by simp] at h
  have HOA0 : Hid (AtrOk ((w.alloc (.cells a.ar 41)).alloc (.cells b.ar 41)) a) := h1.below HB0.out (Nat.le_refl _)
  have HOB0 : Hid (AtrOk ((w.alloc (.cells a.ar 41)).alloc (.cells b.ar 41)) b) := h2.below HB0.out (Nat.le_refl _)
  clear h1 h2
  have HQp : Hid (∀ W, AtrOk W a → AtrOk W b → Calls Try.prog 31 #[.slice a.pA a.segs.length a.pC, .slice b.pA b.segs.length b.pC] W fun e w' => e = .returned (.bool (decide (a.segs.map Sg.c = b.segs.map Sg.c))) ∧ Below W.heap.size W w') := fun W h1 h2 => psame_any _ _ _ _ _ _ _ h1.path h2.path
  have HQm : Hid (∀ W, AtrOk W a → AtrOk W b → Calls Try.prog 32 #[.slice a.mA a.comms.length a.mC, .slice b.mA b.comms.length b.mC] W fun e w' => e = .returned (.bool (decide (a.comms = b.comms))) ∧ Below W.heap.size W w') := fun W h1 h2 => eq_u32 _ _ _ _ _ _ _ h1.mrd h2.mrd h1.mlen h2.mlen h1.mcap h2.mcap
  have HQx : Hid (∀ W, AtrOk W a → AtrOk W b → Calls Try.prog 33 #[.slice a.xA a.exts.length a.xC, .slice b.xA b.exts.length b.xC] W fun e w' => e = .returned (.bool (decide (a.exts = b.exts))) ∧ Below W.heap.size W w') := fun W h1 h2 => eq_u64 _ _ _ _ _ _ _ h1.xrd h2.xrd h1.xlen h2.xlen h1.xcap h2.xcap
  have HQl : Hid (∀ W, AtrOk W a → AtrOk W b → Calls Try.prog 34 #[.slice a.lA a.larges.length a.lC, .slice b.lA b.larges.length b.lC] W fun e w' => e = .returned (.bool (decide (a.larges = b.larges))) ∧ Below W.heap.size W w') := fun W h1 h2 => eq_L _ _ _ _ _ _ _ h1.lrd h2.lrd h1.llen h2.llen h1.lcap h2.lcap
  have HQk : Hid (∀ W, AtrOk W a → AtrOk W b → Calls Try.prog 32 #[.slice a.kA a.clus.length a.kC, .slice b.kA b.clus.length b.kC] W fun e w' => e = .returned (.bool (decide (a.clus = b.clus))) ∧ Below W.heap.size W w') := fun W h1 h2 => eq_u32 _ _ _ _ _ _ _ h1.krd h2.krd h1.klen h2.klen h1.kcap h2.kcap
  generalize hr : decide (a.c = b.c) = r
  have HR := Lib.hid hr
  clear hr
  unfold Atr.v
  go_enter Try.func15, Try.ntmps15
  go_upto_region 1 with fail
  generalize (w.alloc (.cells a.ar 41)).alloc (.cells b.ar 41) = W at HB0 HC0 HD0 HOA0 HOB0 ⊢
  have hsW := HB0.out.size
  have hlt := HC0.out.lt
  have hld := HD0.out.lt
  obtain ⟨c0, c1, c2, c3, c4, c5, c6, c7, c8, c9, c10, c11, c12, c13, c14, c15⟩ := atr_cells HC0.out
  obtain ⟨d0, d1, d2, d3, d4, d5, d6, d7, d8, d9, d10, d11, d12, d13, d14, d15⟩ := atr_cells HD0.out
  refine wp_region_eq [{ dst := some 5, op := Op.fieldAddr 41 (Operand.tmp 2) 0, type := 0, pos := "attr.go:43", after := #[], guard := none }, { dst := some 6, op := Op.load 3 (Operand.tmp 5), type := 3, pos := "attr.go:43", after := #[{ on := 0, ground := Ground.data }], guard := none }, { dst := some 7, op := Op.fieldAddr 41 (Operand.tmp 3) 0, type := 0, pos := "attr.go:43", after := #[], guard := none }, { dst := some 8, op := Op.load 3 (Operand.tmp 7), type := 3, pos := "attr.go:43", after := #[{ on := 2, ground := Ground.data }], guard := none }, { dst := some 9, op := Op.binOp BinOp.eql 3 (Operand.tmp 6) (Operand.tmp 8) 3, type := 4, pos := "attr.go:43", after := #[{ on := 1, ground := Ground.data }, { on := 3, ground := Ground.data }], guard := none }, { dst := some 10, op := Op.move (Operand.tmp 9), type := 4, pos := "attr.go:43", after := #[{ on := 4, ground := Ground.data }], guard := none }, { dst := some 11, op := Op.fieldAddr 41 (Operand.tmp 2) 2, type := 0, pos := "attr.go:43", after := #[{ on := 5, ground := Ground.guard }], guard := some (5, true) }, { dst := some 12, op := Op.load 9 (Operand.tmp 11), type := 9, pos := "attr.go:43", after := #[{ on := 6, ground := Ground.data }, { on := 5, ground := Ground.guard }], guard := some (5, true) }, { dst := some 13, op := Op.fieldAddr 41 (Operand.tmp 3) 2, type := 0, pos := "attr.go:43", after := #[{ on := 5, ground := Ground.guard }], guard := some (5, true) }, { dst := some 14, op := Op.load 9 (Operand.tmp 13), type := 9, pos := "attr.go:43", after := #[{ on := 8, ground := Ground.data }, { on := 5, ground := Ground.guard }], guard := some (5, true) }, { dst := some 15, op := Op.binOp BinOp.eql 9 (Operand.tmp 12) (Operand.tmp 14) 9, type := 4, pos := "attr.go:43", after := #[{ on := 7, ground := Ground.data }, { on := 9, ground := Ground.data }, { on := 5, ground := Ground.guard }], guard := some (5, true) }, { dst := some 16, op := Op.pick (Operand.tmp 10) (Operand.tmp 15) (Operand.const (Value.bool false)), type := 4, pos := "attr.go:43", after := #[{ on := 5, ground := Ground.data }, { on := 10, ground := Ground.data }], guard := none }, { dst := some 17, op := Op.move (Operand.tmp 16), type := 4, pos := "attr.go:43", after := #[{ on := 11, ground := Ground.data }, { on := 5, ground := Ground.chain }], guard := none }, { dst := some 18, op := Op.fieldAddr 41 (Operand.tmp 2) 3, type := 0, pos := "attr.go:43", after := #[{ on := 12, ground := Ground.guard }], guard := some (12, true) }, { dst := some 19, op := Op.load 4 (Operand.tmp 18), type := 4, pos := "attr.go:43", after := #[{ on := 13, ground := Ground.data }, { on := 12, ground := Ground.guard }], guard := some (12, true) }, { dst := some 20, op := Op.fieldAddr 41 (Operand.tmp 3) 3, type := 0, pos := "attr.go:43", after := #[{ on := 12, ground := Ground.guard }], guard := some (12, true) }, { dst := some 21, op := Op.load 4 (Operand.tmp 20), type := 4, pos := "attr.go:43", after := #[{ on := 15, ground := Ground.data }, { on := 12, ground := Ground.guard }], guard := some (12, true) }, { dst := some 22, op := Op.binOp BinOp.eql 4 (Operand.tmp 19) (Operand.tmp 21) 4, type := 4, pos := "attr.go:43", after := #[{ on := 14, ground := Ground.data }, { on := 16, ground := Ground.data }, { on := 12, ground := Ground.guard }], guard := some (12, true) }, { dst := some 23, op := Op.pick (Operand.tmp 17) (Operand.tmp 22) (Operand.const (Value.bool false)), type := 4, pos := "attr.go:43", after := #[{ on := 12, ground := Ground.data }, { on := 17, ground := Ground.data }], guard := none }, { dst := some 24, op := Op.move (Operand.tmp 23), type := 4, pos := "attr.go:43", after := #[{ on := 18, ground := Ground.data }, { on := 12, ground := Ground.chain }], guard := none }, { dst := some 25, op := Op.fieldAddr 41 (Operand.tmp 2) 4, type := 0, pos := "attr.go:43", after := #[{ on := 19, ground := Ground.guard }], guard := some (19, true) }, { dst := some 26, op := Op.load 30 (Operand.tmp 25), type := 30, pos := "attr.go:43", after := #[{ on := 20, ground := Ground.data }, { on := 19, ground := Ground.guard }], guard := some (19, true) }, { dst := some 27, op := Op.fieldAddr 41 (Operand.tmp 3) 4, type := 0, pos := "attr.go:43", after := #[{ on := 19, ground := Ground.guard }], guard := some (19, true) }, { dst := some 28, op := Op.load 30 (Operand.tmp 27), type := 30, pos := "attr.go:43", after := #[{ on := 22, ground := Ground.data }, { on := 19, ground := Ground.guard }], guard := some (19, true) }, { dst := some 29, op := Op.binOp BinOp.eql 30 (Operand.tmp 26) (Operand.tmp 28) 30, type := 4, pos := "attr.go:43", after := #[{ on := 21, ground := Ground.data }, { on := 23, ground := Ground.data }, { on := 19, ground := Ground.guard }], guard := some (19, true) }, { dst := some 30, op := Op.pick (Operand.tmp 24) (Operand.tmp 29) (Operand.const (Value.bool false)), type := 4, pos := "attr.go:43", after := #[{ on := 19, ground := Ground.data }, { on := 24, ground := Ground.data }], guard := none }, { dst := some 31, op := Op.move (Operand.tmp 30), type := 4, pos := "attr.go:43", after := #[{ on := 25, ground := Ground.data }, { on := 19, ground := Ground.chain }], guard := none }, { dst := some 32, op := Op.fieldAddr 41 (Operand.tmp 2) 5, type := 0, pos := "attr.go:43", after := #[{ on := 26, ground := Ground.guard }], guard := some (26, true) }, { dst := some 33, op := Op.load 4 (Operand.tmp 32), type := 4, pos := "attr.go:43", after := #[{ on := 27, ground := Ground.data }, { on := 26, ground := Ground.guard }], guard := some (26, true) }, { dst := some 34, op := Op.fieldAddr 41 (Operand.tmp 3) 5, type := 0, pos := "attr.go:43", after := #[{ on := 26, ground := Ground.guard }], guard := some (26, true) }, { dst := some 35, op := Op.load 4 (Operand.tmp 34), type := 4, pos := "attr.go:43", after := #[{ on := 29, ground := Ground.data }, { on := 26, ground := Ground.guard }], guard := some (26, true) }, { dst := some 36, op := Op.binOp BinOp.eql 4 (Operand.tmp 33) (Operand.tmp 35) 4, type := 4, pos := "attr.go:43", after := #[{ on := 28, ground := Ground.data }, { on := 30, ground := Ground.data }, { on := 26, ground := Ground.guard }], guard := some (26, true) }, { dst := some 37, op := Op.pick (Operand.tmp 31) (Operand.tmp 36) (Operand.const (Value.bool false)), type := 4, pos := "attr.go:43", after := #[{ on := 26, ground := Ground.data }, { on := 31, ground := Ground.data }], guard := none }, { dst := some 38, op := Op.move (Operand.tmp 37), type := 4, pos := "attr.go:43", after := #[{ on := 32, ground := Ground.data }, { on := 26, ground := Ground.chain }], guard := none }, { dst := some 39, op := Op.fieldAddr 41 (Operand.tmp 2) 6, type := 0, pos := "attr.go:43", after := #[{ on := 33, ground := Ground.guard }], guard := some (33, true) }, { dst := some 40, op := Op.load 30 (Operand.tmp 39), type := 30, pos := "attr.go:43", after := #[{ on := 34, ground := Ground.data }, { on := 33, ground := Ground.guard }], guard := some (33, true) }, { dst := some 41, op := Op.fieldAddr 41 (Operand.tmp 3) 6, type := 0, pos := "attr.go:43", after := #[{ on := 33, ground := Ground.guard }], guard := some (33, true) }, { dst := some 42, op := Op.load 30 (Operand.tmp 41), type := 30, pos := "attr.go:43", after := #[{ on := 36, ground := Ground.data }, { on := 33, ground := Ground.guard }], guard := some (33, true) }, { dst := some 43, op := Op.binOp BinOp.eql 30 (Operand.tmp 40) (Operand.tmp 42) 30, type := 4, pos := "attr.go:43", after := #[{ on := 35, ground := Ground.data }, { on := 37, ground := Ground.data }, { on := 33, ground := Ground.guard }], guard := some (33, true) }, { dst := some 44, op := Op.pick (Operand.tmp 38) (Operand.tmp 43) (Operand.const (Value.bool false)), type := 4, pos := "attr.go:43", after := #[{ on := 33, ground := Ground.data }, { on := 38, ground := Ground.data }], guard := none }, { dst := some 45, op := Op.move (Operand.tmp 44), type := 4, pos := "attr.go:43", after := #[{ on := 39, ground := Ground.data }, { on := 33, ground := Ground.chain }], guard := none }, { dst := some 46, op := Op.fieldAddr 41 (Operand.tmp 2) 7, type := 0, pos := "attr.go:43", after := #[{ on := 40, ground := Ground.guard }], guard := some (40, true) }, { dst := some 47, op := Op.load 4 (Operand.tmp 46), type := 4, pos := "attr.go:43", after := #[{ on := 41, ground := Ground.data }, { on := 40, ground := Ground.guard }], guard := some (40, true) }, { dst := some 48, op := Op.fieldAddr 41 (Operand.tmp 3) 7, type := 0, pos := "attr.go:43", after := #[{ on := 40, ground := Ground.guard }], guard := some (40, true) }, { dst := some 49, op := Op.load 4 (Operand.tmp 48), type := 4, pos := "attr.go:43", after := #[{ on := 43, ground := Ground.data }, { on := 40, ground := Ground.guard }], guard := some (40, true) }, { dst := some 50, op := Op.binOp BinOp.eql 4 (Operand.tmp 47) (Operand.tmp 49) 4, type := 4, pos := "attr.go:43", after := #[{ on := 42, ground := Ground.data }, { on := 44, ground := Ground.data }, { on := 40, ground := Ground.guard }], guard := some (40, true) }, { dst := some 51, op := Op.pick (Operand.tmp 45) (Operand.tmp 50) (Operand.const (Value.bool false)), type := 4, pos := "attr.go:43", after := #[{ on := 40, ground := Ground.data }, { on := 45, ground := Ground.data }], guard := none }, { dst := some 52, op := Op.move (Operand.tmp 51), type := 4, pos := "attr.go:43", after := #[{ on := 46, ground := Ground.data }, { on := 40, ground := Ground.chain }], guard := none }, { dst := some 53, op := Op.fieldAddr 41 (Operand.tmp 2) 8, type := 0, pos := "attr.go:43", after := #[{ on := 47, ground := Ground.guard }], guard := some (47, true) }, { dst := some 54, op := Op.load 30 (Operand.tmp 53), type := 30, pos := "attr.go:43", after := #[{ on := 48, ground := Ground.data }, { on := 47, ground := Ground.guard }], guard := some (47, true) }, { dst := some 55, op := Op.fieldAddr 41 (Operand.tmp 3) 8, type := 0, pos := "attr.go:43", after := #[{ on := 47, ground := Ground.guard }], guard := some (47, true) }, { dst := some 56, op := Op.load 30 (Operand.tmp 55), type := 30, pos := "attr.go:43", after := #[{ on := 50, ground := Ground.data }, { on := 47, ground := Ground.guard }], guard := some (47, true) }, { dst := some 57, op := Op.binOp BinOp.eql 30 (Operand.tmp 54) (Operand.tmp 56) 30, type := 4, pos := "attr.go:43", after := #[{ on := 49, ground := Ground.data }, { on := 51, ground := Ground.data }, { on := 47, ground := Ground.guard }], guard := some (47, true) }, { dst := some 58, op := Op.pick (Operand.tmp 52) (Operand.tmp 57) (Operand.const (Value.bool false)), type := 4, pos := "attr.go:43", after := #[{ on := 47, ground := Ground.data }, { on := 52, ground := Ground.data }], guard := none }, { dst := some 59, op := Op.move (Operand.tmp 58), type := 4, pos := "attr.go:43", after := #[{ on := 53, ground := Ground.data }, { on := 47, ground := Ground.chain }], guard := none }, { dst := some 60, op := Op.fieldAddr 41 (Operand.tmp 2) 9, type := 0, pos := "attr.go:43", after := #[{ on := 54, ground := Ground.guard }], guard := some (54, true) }, { dst := some 61, op := Op.load 30 (Operand.tmp 60), type := 30, pos := "attr.go:43", after := #[{ on := 55, ground := Ground.data }, { on := 54, ground := Ground.guard }], guard := some (54, true) }, { dst := some 62, op := Op.fieldAddr 41 (Operand.tmp 3) 9, type := 0, pos := "attr.go:43", after := #[{ on := 54, ground := Ground.guard }], guard := some (54, true) }, { dst := some 63, op := Op.load 30 (Operand.tmp 62), type := 30, pos := "attr.go:43", after := #[{ on := 57, ground := Ground.data }, { on := 54, ground := Ground.guard }], guard := some (54, true) }, { dst := some 64, op := Op.binOp BinOp.eql 30 (Operand.tmp 61) (Operand.tmp 63) 30, type := 4, pos := "attr.go:43", after := #[{ on := 56, ground := Ground.data }, { on := 58, ground := Ground.data }, { on := 54, ground := Ground.guard }], guard := some (54, true) }, { dst := some 65, op := Op.pick (Operand.tmp 59) (Operand.tmp 64) (Operand.const (Value.bool false)), type := 4, pos := "attr.go:43", after := #[{ on := 54, ground := Ground.data }, { on := 59, ground := Ground.data }], guard := none }, { dst := some 66, op := Op.move (Operand.tmp 65), type := 4, pos := "attr.go:43", after := #[{ on := 60, ground := Ground.data }, { on := 54, ground := Ground.chain }], guard := none }, { dst := some 67, op := Op.fieldAddr 41 (Operand.tmp 2) 13, type := 0, pos := "attr.go:43", after := #[{ on := 61, ground := Ground.guard }], guard := some (61, true) }, { dst := some 68, op := Op.load 4 (Operand.tmp 67), type := 4, pos := "attr.go:43", after := #[{ on := 62, ground := Ground.data }, { on := 61, ground := Ground.guard }], guard := some (61, true) }, { dst := some 69, op := Op.fieldAddr 41 (Operand.tmp 3) 13, type := 0, pos := "attr.go:43", after := #[{ on := 61, ground := Ground.guard }], guard := some (61, true) }, { dst := some 70, op := Op.load 4 (Operand.tmp 69), type := 4, pos := "attr.go:43", after := #[{ on := 64, ground := Ground.data }, { on := 61, ground := Ground.guard }], guard := some (61, true) }, { dst := some 71, op := Op.binOp BinOp.eql 4 (Operand.tmp 68) (Operand.tmp 70) 4, type := 4, pos := "attr.go:43", after := #[{ on := 63, ground := Ground.data }, { on := 65, ground := Ground.data }, { on := 61, ground := Ground.guard }], guard := some (61, true) }, { dst := some 72, op := Op.pick (Operand.tmp 66) (Operand.tmp 71) (Operand.const (Value.bool false)), type := 4, pos := "attr.go:43", after := #[{ on := 61, ground := Ground.data }, { on := 66, ground := Ground.data }], guard := none }, { dst := some 73, op := Op.move (Operand.tmp 72), type := 4, pos := "attr.go:43", after := #[{ on := 67, ground := Ground.data }, { on := 61, ground := Ground.chain }], guard := none }, { dst := some 74, op := Op.fieldAddr 41 (Operand.tmp 2) 14, type := 0, pos := "attr.go:43", after := #[{ on := 68, ground := Ground.guard }], guard := some (68, true) }, { dst := some 75, op := Op.load 30 (Operand.tmp 74), type := 30, pos := "attr.go:43", after := #[{ on := 69, ground := Ground.data }, { on := 68, ground := Ground.guard }], guard := some (68, true) }, { dst := some 76, op := Op.fieldAddr 41 (Operand.tmp 3) 14, type := 0, pos := "attr.go:43", after := #[{ on := 68, ground := Ground.guard }], guard := some (68, true) }, { dst := some 77, op := Op.load 30 (Operand.tmp 76), type := 30, pos := "attr.go:43", after := #[{ on := 71, ground := Ground.data }, { on := 68, ground := Ground.guard }], guard := some (68, true) }, { dst := some 78, op := Op.binOp BinOp.eql 30 (Operand.tmp 75) (Operand.tmp 77) 30, type := 4, pos := "attr.go:43", after := #[{ on := 70, ground := Ground.data }, { on := 72, ground := Ground.data }, { on := 68, ground := Ground.guard }], guard := some (68, true) }, { dst := some 79, op := Op.pick (Operand.tmp 73) (Operand.tmp 78) (Operand.const (Value.bool false)), type := 4, pos := "attr.go:43", after := #[{ on := 68, ground := Ground.data }, { on := 73, ground := Ground.data }], guard := none }, { dst := some 80, op := Op.move (Operand.tmp 79), type := 4, pos := "attr.go:43", after := #[{ on := 74, ground := Ground.data }, { on := 68, ground := Ground.chain }], guard := none }, { dst := some 81, op := Op.fieldAddr 41 (Operand.tmp 2) 1, type := 0, pos := "attr.go:43", after := #[{ on := 75, ground := Ground.guard }], guard := some (75, true) }, { dst := some 82, op := Op.load 36 (Operand.tmp 81), type := 36, pos := "attr.go:43", after := #[{ on := 76, ground := Ground.data }, { on := 75, ground := Ground.guard }], guard := some (75, true) }, { dst := some 83, op := Op.fieldAddr 41 (Operand.tmp 3) 1, type := 0, pos := "attr.go:43", after := #[{ on := 75, ground := Ground.guard }], guard := some (75, true) }, { dst := some 84, op := Op.load 36 (Operand.tmp 83), type := 36, pos := "attr.go:43", after := #[{ on := 78, ground := Ground.data }, { on := 75, ground := Ground.guard }], guard := some (75, true) }, { dst := some 85, op := Op.call { callee := Callee.value (Operand.func 31), args := #[Operand.tmp 82, Operand.tmp 84], argTypes := #[36, 36] }, type := 4, pos := "attr.go:45", after := #[{ on := 77, ground := Ground.data }, { on := 79, ground := Ground.data }, { on := 75, ground := Ground.chain }, { on := 75, ground := Ground.guard }], guard := some (75, true) }, { dst := some 86, op := Op.pick (Operand.tmp 80) (Operand.tmp 85) (Operand.const (Value.bool false)), type := 4, pos := "attr.go:43", after := #[{ on := 75, ground := Ground.data }, { on := 80, ground := Ground.data }], guard := none }, { dst := some 87, op := Op.move (Operand.tmp 86), type := 4, pos := "attr.go:43", after := #[{ on := 81, ground := Ground.data }, { on := 80, ground := Ground.chain }], guard := none }, { dst := some 88, op := Op.fieldAddr 41 (Operand.tmp 2) 10, type := 0, pos := "attr.go:43", after := #[{ on := 82, ground := Ground.guard }], guard := some (82, true) }, { dst := some 89, op := Op.load 37 (Operand.tmp 88), type := 37, pos := "attr.go:43", after := #[{ on := 83, ground := Ground.data }, { on := 82, ground := Ground.guard }], guard := some (82, true) }, { dst := some 90, op := Op.fieldAddr 41 (Operand.tmp 3) 10, type := 0, pos := "attr.go:43", after := #[{ on := 82, ground := Ground.guard }], guard := some (82, true) }, { dst := some 91, op := Op.load 37 (Operand.tmp 90), type := 37, pos := "attr.go:43", after := #[{ on := 85, ground := Ground.data }, { on := 82, ground := Ground.guard }], guard := some (82, true) }, { dst := some 92, op := Op.call { callee := Callee.value (Operand.func 32), args := #[Operand.tmp 89, Operand.tmp 91], argTypes := #[37, 37] }, type := 4, pos := "attr.go:45", after := #[{ on := 84, ground := Ground.data }, { on := 86, ground := Ground.data }, { on := 82, ground := Ground.chain }, { on := 82, ground := Ground.guard }], guard := some (82, true) }, { dst := some 93, op := Op.pick (Operand.tmp 87) (Operand.tmp 92) (Operand.const (Value.bool false)), type := 4, pos := "attr.go:43", after := #[{ on := 82, ground := Ground.data }, { on := 87, ground := Ground.data }], guard := none }, { dst := some 94, op := Op.move (Operand.tmp 93), type := 4, pos := "attr.go:43", after := #[{ on := 88, ground := Ground.data }, { on := 87, ground := Ground.chain }], guard := none }, { dst := some 95, op := Op.fieldAddr 41 (Operand.tmp 2) 11, type := 0, pos := "attr.go:43", after := #[{ on := 89, ground := Ground.guard }], guard := some (89, true) }, { dst := some 96, op := Op.load 38 (Operand.tmp 95), type := 38, pos := "attr.go:43", after := #[{ on := 90, ground := Ground.data }, { on := 89, ground := Ground.guard }], guard := some (89, true) }, { dst := some 97, op := Op.fieldAddr 41 (Operand.tmp 3) 11, type := 0, pos := "attr.go:43", after := #[{ on := 89, ground := Ground.guard }], guard := some (89, true) }, { dst := some 98, op := Op.load 38 (Operand.tmp 97), type := 38, pos := "attr.go:43", after := #[{ on := 92, ground := Ground.data }, { on := 89, ground := Ground.guard }], guard := some (89, true) }, { dst := some 99, op := Op.call { callee := Callee.value (Operand.func 33), args := #[Operand.tmp 96, Operand.tmp 98], argTypes := #[38, 38] }, type := 4, pos := "attr.go:45", after := #[{ on := 91, ground := Ground.data }, { on := 93, ground := Ground.data }, { on := 89, ground := Ground.chain }, { on := 89, ground := Ground.guard }], guard := some (89, true) }, { dst := some 100, op := Op.pick (Operand.tmp 94) (Operand.tmp 99) (Operand.const (Value.bool false)), type := 4, pos := "attr.go:43", after := #[{ on := 89, ground := Ground.data }, { on := 94, ground := Ground.data }], guard := none }, { dst := some 101, op := Op.move (Operand.tmp 100), type := 4, pos := "attr.go:43", after := #[{ on := 95, ground := Ground.data }, { on := 94, ground := Ground.chain }], guard := none }, { dst := some 102, op := Op.fieldAddr 41 (Operand.tmp 2) 12, type := 0, pos := "attr.go:43", after := #[{ on := 96, ground := Ground.guard }], guard := some (96, true) }, { dst := some 103, op := Op.load 39 (Operand.tmp 102), type := 39, pos := "attr.go:43", after := #[{ on := 97, ground := Ground.data }, { on := 96, ground := Ground.guard }], guard := some (96, true) }, { dst := some 104, op := Op.fieldAddr 41 (Operand.tmp 3) 12, type := 0, pos := "attr.go:43", after := #[{ on := 96, ground := Ground.guard }], guard := some (96, true) }, { dst := some 105, op := Op.load 39 (Operand.tmp 104), type := 39, pos := "attr.go:43", after := #[{ on := 99, ground := Ground.data }, { on := 96, ground := Ground.guard }], guard := some (96, true) }, { dst := some 106, op := Op.call { callee := Callee.value (Operand.func 34), args := #[Operand.tmp 103, Operand.tmp 105], argTypes := #[39, 39] }, type := 4, pos := "attr.go:45", after := #[{ on := 98, ground := Ground.data }, { on := 100, ground := Ground.data }, { on := 96, ground := Ground.chain }, { on := 96, ground := Ground.guard }], guard := some (96, true) }, { dst := some 107, op := Op.pick (Operand.tmp 101) (Operand.tmp 106) (Operand.const (Value.bool false)), type := 4, pos := "attr.go:43", after := #[{ on := 96, ground := Ground.data }, { on := 101, ground := Ground.data }], guard := none }, { dst := some 108, op := Op.move (Operand.tmp 107), type := 4, pos := "attr.go:43", after := #[{ on := 102, ground := Ground.data }, { on := 101, ground := Ground.chain }], guard := none }, { dst := some 109, op := Op.fieldAddr 41 (Operand.tmp 2) 15, type := 0, pos := "attr.go:43", after := #[{ on := 103, ground := Ground.guard }], guard := some (103, true) }, { dst := some 110, op := Op.load 37 (Operand.tmp 109), type := 37, pos := "attr.go:43", after := #[{ on := 104, ground := Ground.data }, { on := 103, ground := Ground.guard }], guard := some (103, true) }, { dst := some 111, op := Op.fieldAddr 41 (Operand.tmp 3) 15, type := 0, pos := "attr.go:43", after := #[{ on := 103, ground := Ground.guard }], guard := some (103, true) }, { dst := some 112, op := Op.load 37 (Operand.tmp 111), type := 37, pos := "attr.go:43", after := #[{ on := 106, ground := Ground.data }, { on := 103, ground := Ground.guard }], guard := some (103, true) }, { dst := some 113, op := Op.call { callee := Callee.value (Operand.func 32), args := #[Operand.tmp 110, Operand.tmp 112], argTypes := #[37, 37] }, type := 4, pos := "attr.go:45", after := #[{ on := 105, ground := Ground.data }, { on := 107, ground := Ground.data }, { on := 103, ground := Ground.chain }, { on := 103, ground := Ground.guard }], guard := some (103, true) }, { dst := some 114, op := Op.pick (Operand.tmp 108) (Operand.tmp 113) (Operand.const (Value.bool false)), type := 4, pos := "attr.go:43", after := #[{ on := 103, ground := Ground.data }, { on := 108, ground := Ground.data }], guard := none }, { dst := some 4, op := Op.assign (Operand.tmp 114), type := 4, pos := "attr.go:43", after := ([{ on := 109, ground := Ground.data }, { on := 108, ground := Ground.chain }, { on := 0, ground := Ground.phase }, { on := 1, ground := Ground.phase }, { on := 2, ground := Ground.phase }, { on := 3, ground := Ground.phase }, { on := 4, ground := Ground.phase }, { on := 5, ground := Ground.phase }, { on := 6, ground := Ground.phase }, { on := 7, ground := Ground.phase }, { on := 8, ground := Ground.phase }, { on := 9, ground := Ground.phase }, { on := 10, ground := Ground.phase }, { on := 11, ground := Ground.phase }, { on := 12, ground := Ground.phase }, { on := 13, ground := Ground.phase }, { on := 14, ground := Ground.phase }, { on := 15, ground := Ground.phase }, { on := 16, ground := Ground.phase }, { on := 17, ground := Ground.phase }, { on := 18, ground := Ground.phase }, { on := 19, ground := Ground.phase }, { on := 20, ground := Ground.phase }, { on := 21, ground := Ground.phase }, { on := 22, ground := Ground.phase }, { on := 23, ground := Ground.phase }, { on := 24, ground := Ground.phase }, { on := 25, ground := Ground.phase }, { on := 26, ground := Ground.phase }, { on := 27, ground := Ground.phase }, { on := 28, ground := Ground.phase }, { on := 29, ground := Ground.phase }, { on := 30, ground := Ground.phase }, { on := 31, ground := Ground.phase }, { on := 32, ground := Ground.phase }, { on := 33, ground := Ground.phase }, { on := 34, ground := Ground.phase }, { on := 35, ground := Ground.phase }, { on := 36, ground := Ground.phase }, { on := 37, ground := Ground.phase }, { on := 38, ground := Ground.phase }, { on := 39, ground := Ground.phase }, { on := 40, ground := Ground.phase }, { on := 41, ground := Ground.phase }, { on := 42, ground := Ground.phase }, { on := 43, ground := Ground.phase }, { on := 44, ground := Ground.phase }, { on := 45, ground := Ground.phase }, { on := 46, ground := Ground.phase }, { on := 47, ground := Ground.phase }, { on := 48, ground := Ground.phase }, { on := 49, ground := Ground.phase }, { on := 50, ground := Ground.phase }, { on := 51, ground := Ground.phase }, { on := 52, ground := Ground.phase }, { on := 53, ground := Ground.phase }].append [{ on := 54, ground := Ground.phase }, { on := 55, ground := Ground.phase }, { on := 56, ground := Ground.phase }, { on := 57, ground := Ground.phase }, { on := 58, ground := Ground.phase }, { on := 59, ground := Ground.phase }, { on := 60, ground := Ground.phase }, { on := 61, ground := Ground.phase }, { on := 62, ground := Ground.phase }, { on := 63, ground := Ground.phase }, { on := 64, ground := Ground.phase }, { on := 65, ground := Ground.phase }, { on := 66, ground := Ground.phase }, { on := 67, ground := Ground.phase }, { on := 68, ground := Ground.phase }, { on := 69, ground := Ground.phase }, { on := 70, ground := Ground.phase }, { on := 71, ground := Ground.phase }, { on := 72, ground := Ground.phase }, { on := 73, ground := Ground.phase }, { on := 74, ground := Ground.phase }, { on := 75, ground := Ground.phase }, { on := 76, ground := Ground.phase }, { on := 77, ground := Ground.phase }, { on := 78, ground := Ground.phase }, { on := 79, ground := Ground.phase }, { on := 80, ground := Ground.phase }, { on := 81, ground := Ground.phase }, { on := 82, ground := Ground.phase }, { on := 83, ground := Ground.phase }, { on := 84, ground := Ground.phase }, { on := 85, ground := Ground.phase }, { on := 86, ground := Ground.phase }, { on := 87, ground := Ground.phase }, { on := 88, ground := Ground.phase }, { on := 89, ground := Ground.phase }, { on := 90, ground := Ground.phase }, { on := 91, ground := Ground.phase }, { on := 92, ground := Ground.phase }, { on := 93, ground := Ground.phase }, { on := 94, ground := Ground.phase }, { on := 95, ground := Ground.phase }, { on := 96, ground := Ground.phase }, { on := 97, ground := Ground.phase }, { on := 98, ground := Ground.phase }, { on := 99, ground := Ground.phase }, { on := 100, ground := Ground.phase }, { on := 101, ground := Ground.phase }, { on := 102, ground := Ground.phase }, { on := 103, ground := Ground.phase }, { on := 104, ground := Ground.phase }, { on := 105, ground := Ground.phase }, { on := 106, ground := Ground.phase }, { on := 107, ground := Ground.phase }, { on := 108, ground := Ground.phase }, { on := 109, ground := Ground.phase }]).toArray, guard := none }] (by kernel_rfl) ?_
  by_cases q : a.origin = b.origin
  case neg =>
    have HF : Hid (r = false) := by show _ = _; rw [← HR.out]; exact decide_eq_false (fun e => q (by have := (AtC.eq_iff.2 e).1; exact this))
    clear HQp HQm HQx HQl HQk HR hlt hld HC0 HD0 HOA0 HOB0
    have q0 : (a.origin == b.origin) = false := beq_eq_false_iff_ne.2 q
    have n0 : (a.origin != b.origin) = true := by rw [bne, q0]; rfl
    clear q
    as_aux_lemma =>
      go_wp2_with (with_reducible show wpList _ _ _ (⟨some 11, _, _, _, _, _⟩ :: _) _ _; refine wpList_pure (a' := { tmps := #[.agg a.ar, .agg b.ar, .pointer (some ⟨w.heap.size, 0, none⟩), .pointer (some ⟨w.heap.size + 1, 0, none⟩), .bool false, .pointer (some ⟨w.heap.size, 0, none⟩), .int .i64 a.origin, .pointer (some ⟨w.heap.size + 1, 0, none⟩), .int .i64 b.origin, .bool false, .bool false, undef, undef, undef, undef, undef, .bool false, .bool false, undef, undef, undef, undef, undef, .bool false, .bool false, undef, undef, undef, undef, undef, .bool false, .bool false, undef, undef, undef, undef, undef, .bool false, .bool false, undef, undef, undef, undef, undef, .bool false, .bool false, undef, undef, undef, undef, undef, .bool false, .bool false, undef, undef, undef, undef, undef, .bool false, .bool false, undef, undef, undef, undef, undef, .bool false, .bool false, undef, undef, undef, undef, undef, .bool false, .bool false, undef, undef, undef, undef, undef, .bool false, .bool false, undef, undef, undef, undef, undef, .bool false, .bool false, undef, undef, undef, undef, undef, .bool false, .bool false, undef, undef, undef, undef, undef, .bool false, .bool false, undef, undef, undef, undef, undef, .bool false, .bool false, undef, undef, undef, undef, undef, .bool false], defers := [] }) (by as_aux_lemma => kernel_rfl) ?_)
      go_ret
      exact ⟨by rw [HF.out]; rfl, HB0.out⟩
  have q0 : (a.origin == b.origin) = true := beq_iff_eq.2 q
  have n0 : (a.origin != b.origin) = false := by simp [q]
  have E0 := Lib.hid q
  clear q
  go_wp2_with (with_reducible show wpList _ _ _ (⟨some 11, _, _, _, _, _⟩ :: _) _ _; refine StopB ?_)
  refine StopA ?_
  by_cases q : a.next = b.next
  case neg =>
    have HF : Hid (r = false) := by show _ = _; rw [← HR.out]; exact decide_eq_false (fun e => q (by have := (AtC.eq_iff.2 e).2.1; exact this))
    clear HQp HQm HQx HQl HQk HR hlt hld HC0 HD0 HOA0 HOB0
    have q1 : (a.next.toList == b.next.toList) = false := Bool.eq_false_iff.2 (fun e => q (bytes_eq.1 e))
    have n1 : (a.next.toList != b.next.toList) = true := by rw [bne, q1]; rfl
    clear q
    as_aux_lemma =>
      go_wp2_with (with_reducible show wpList _ _ _ (⟨some 19, _, _, _, _, _⟩ :: _) _ _; refine wpList_pure (a' := { tmps := #[.agg a.ar, .agg b.ar, .pointer (some ⟨w.heap.size, 0, none⟩), .pointer (some ⟨w.heap.size + 1, 0, none⟩), .bool false, .pointer (some ⟨w.heap.size, 0, none⟩), .int .i64 a.origin, .pointer (some ⟨w.heap.size + 1, 0, none⟩), .int .i64 b.origin, .bool true, .bool true, .pointer (some ⟨w.heap.size, 2, none⟩), .string a.next, .pointer (some ⟨w.heap.size + 1, 2, none⟩), .string b.next, .bool false, .bool false, .bool false, undef, undef, undef, undef, undef, .bool false, .bool false, undef, undef, undef, undef, undef, .bool false, .bool false, undef, undef, undef, undef, undef, .bool false, .bool false, undef, undef, undef, undef, undef, .bool false, .bool false, undef, undef, undef, undef, undef, .bool false, .bool false, undef, undef, undef, undef, undef, .bool false, .bool false, undef, undef, undef, undef, undef, .bool false, .bool false, undef, undef, undef, undef, undef, .bool false, .bool false, undef, undef, undef, undef, undef, .bool false, .bool false, undef, undef, undef, undef, undef, .bool false, .bool false, undef, undef, undef, undef, undef, .bool false, .bool false, undef, undef, undef, undef, undef, .bool false, .bool false, undef, undef, undef, undef, undef, .bool false, .bool false, undef, undef, undef, undef, undef, .bool false], defers := [] }) (by as_aux_lemma => kernel_rfl) ?_)
      go_ret
      exact ⟨by rw [HF.out]; rfl, HB0.out⟩
  have q1 : (a.next.toList == b.next.toList) = true := bytes_eq.2 q
  have n1 : (a.next.toList != b.next.toList) = false := by rw [q]; simp
  have E1 := Lib.hid q
  clear q
  go_wp2_with (with_reducible show wpList _ _ _ (⟨some 18, _, _, _, _, _⟩ :: _) _ _; refine StopB ?_)
  refine StopA ?_
  by_cases q : a.hasMed = b.hasMed
  case neg =>
    have HF : Hid (r = false) := by show _ = _; rw [← HR.out]; exact decide_eq_false (fun e => q (by have := (AtC.eq_iff.2 e).2.2.1; exact this))
    clear HQp HQm HQx HQl HQk HR hlt hld HC0 HD0 HOA0 HOB0
    have q2 : (a.hasMed == b.hasMed) = false := beq_eq_false_iff_ne.2 q
    have n2 : (a.hasMed != b.hasMed) = true := by rw [bne, q2]; rfl
    clear q
    as_aux_lemma =>
      go_wp2_with (with_reducible show wpList _ _ _ (⟨some 26, _, _, _, _, _⟩ :: _) _ _; refine wpList_pure (a' := { tmps := #[.agg a.ar, .agg b.ar, .pointer (some ⟨w.heap.size, 0, none⟩), .pointer (some ⟨w.heap.size + 1, 0, none⟩), .bool false, .pointer (some ⟨w.heap.size, 0, none⟩), .int .i64 a.origin, .pointer (some ⟨w.heap.size + 1, 0, none⟩), .int .i64 b.origin, .bool true, .bool true, .pointer (some ⟨w.heap.size, 2, none⟩), .string a.next, .pointer (some ⟨w.heap.size + 1, 2, none⟩), .string b.next, .bool true, .bool true, .bool true, .pointer (some ⟨w.heap.size, 3, none⟩), .bool a.hasMed, .pointer (some ⟨w.heap.size + 1, 3, none⟩), .bool b.hasMed, .bool false, .bool false, .bool false, undef, undef, undef, undef, undef, .bool false, .bool false, undef, undef, undef, undef, undef, .bool false, .bool false, undef, undef, undef, undef, undef, .bool false, .bool false, undef, undef, undef, undef, undef, .bool false, .bool false, undef, undef, undef, undef, undef, .bool false, .bool false, undef, undef, undef, undef, undef, .bool false, .bool false, undef, undef, undef, undef, undef, .bool false, .bool false, undef, undef, undef, undef, undef, .bool false, .bool false, undef, undef, undef, undef, undef, .bool false, .bool false, undef, undef, undef, undef, undef, .bool false, .bool false, undef, undef, undef, undef, undef, .bool false, .bool false, undef, undef, undef, undef, undef, .bool false, .bool false, undef, undef, undef, undef, undef, .bool false], defers := [] }) (by as_aux_lemma => kernel_rfl) ?_)
      go_ret
      exact ⟨by rw [HF.out]; rfl, HB0.out⟩
  have q2 : (a.hasMed == b.hasMed) = true := beq_iff_eq.2 q
  have n2 : (a.hasMed != b.hasMed) = false := by simp [q]
  have E2 := Lib.hid q
  clear q
  go_wp2_with (with_reducible show wpList _ _ _ (⟨some 25, _, _, _, _, _⟩ :: _) _ _; refine StopB ?_)
  refine StopA ?_
  by_cases q : a.med = b.med
  case neg =>
    have HF : Hid (r = false) := by show _ = _; rw [← HR.out]; exact decide_eq_false (fun e => q (by have := (AtC.eq_iff.2 e).2.2.2.1; exact this))
    clear HQp HQm HQx HQl HQk HR hlt hld HC0 HD0 HOA0 HOB0
    have q3 : ((a.med : Int) == (b.med : Int)) = false := beq_eq_false_iff_ne.2 (by omega)
    have n3 : ((a.med : Int) != (b.med : Int)) = true := by rw [bne, q3]; rfl
    clear q
    as_aux_lemma =>
      go_wp2_with (with_reducible show wpList _ _ _ (⟨some 33, _, _, _, _, _⟩ :: _) _ _; refine wpList_pure (a' := { tmps := #[.agg a.ar, .agg b.ar, .pointer (some ⟨w.heap.size, 0, none⟩), .pointer (some ⟨w.heap.size + 1, 0, none⟩), .bool false, .pointer (some ⟨w.heap.size, 0, none⟩), .int .i64 a.origin, .pointer (some ⟨w.heap.size + 1, 0, none⟩), .int .i64 b.origin, .bool true, .bool true, .pointer (some ⟨w.heap.size, 2, none⟩), .string a.next, .pointer (some ⟨w.heap.size + 1, 2, none⟩), .string b.next, .bool true, .bool true, .bool true, .pointer (some ⟨w.heap.size, 3, none⟩), .bool a.hasMed, .pointer (some ⟨w.heap.size + 1, 3, none⟩), .bool b.hasMed, .bool true, .bool true, .bool true, .pointer (some ⟨w.heap.size, 4, none⟩), .int .u32 (a.med : Nat), .pointer (some ⟨w.heap.size + 1, 4, none⟩), .int .u32 (b.med : Nat), .bool false, .bool false, .bool false, undef, undef, undef, undef, undef, .bool false, .bool false, undef, undef, undef, undef, undef, .bool false, .bool false, undef, undef, undef, undef, undef, .bool false, .bool false, undef, undef, undef, undef, undef, .bool false, .bool false, undef, undef, undef, undef, undef, .bool false, .bool false, undef, undef, undef, undef, undef, .bool false, .bool false, undef, undef, undef, undef, undef, .bool false, .bool false, undef, undef, undef, undef, undef, .bool false, .bool false, undef, undef, undef, undef, undef, .bool false, .bool false, undef, undef, undef, undef, undef, .bool false, .bool false, undef, undef, undef, undef, undef, .bool false, .bool false, undef, undef, undef, undef, undef, .bool false], defers := [] }) (by as_aux_lemma => kernel_rfl) ?_)
      go_ret
      exact ⟨by rw [HF.out]; rfl, HB0.out⟩
  have q3 : ((a.med : Int) == (b.med : Int)) = true := by rw [q]; simp
  have n3 : ((a.med : Int) != (b.med : Int)) = false := by rw [q]; simp
  have E3 := Lib.hid q
  clear q
  go_wp2_with (with_reducible show wpList _ _ _ (⟨some 32, _, _, _, _, _⟩ :: _) _ _; refine StopB ?_)
  refine StopA ?_
  by_cases q : a.hasPref = b.hasPref
  case neg =>
    have HF : Hid (r = false) := by show _ = _; rw [← HR.out]; exact decide_eq_false (fun e => q (by have := (AtC.eq_iff.2 e).2.2.2.2.1; exact this))
    clear HQp HQm HQx HQl HQk HR hlt hld HC0 HD0 HOA0 HOB0
    have q4 : (a.hasPref == b.hasPref) = false := beq_eq_false_iff_ne.2 q
    have n4 : (a.hasPref != b.hasPref) = true := by rw [bne, q4]; rfl
    clear q
    as_aux_lemma =>
      go_wp2_with (with_reducible show wpList _ _ _ (⟨some 40, _, _, _, _, _⟩ :: _) _ _; refine wpList_pure (a' := { tmps := #[.agg a.ar, .agg b.ar, .pointer (some ⟨w.heap.size, 0, none⟩), .pointer (some ⟨w.heap.size + 1, 0, none⟩), .bool false, .pointer (some ⟨w.heap.size, 0, none⟩), .int .i64 a.origin, .pointer (some ⟨w.heap.size + 1, 0, none⟩), .int .i64 b.origin, .bool true, .bool true, .pointer (some ⟨w.heap.size, 2, none⟩), .string a.next, .pointer (some ⟨w.heap.size + 1, 2, none⟩), .string b.next, .bool true, .bool true, .bool true, .pointer (some ⟨w.heap.size, 3, none⟩), .bool a.hasMed, .pointer (some ⟨w.heap.size + 1, 3, none⟩), .bool b.hasMed, .bool true, .bool true, .bool true, .pointer (some ⟨w.heap.size, 4, none⟩), .int .u32 (a.med : Nat), .pointer (some ⟨w.heap.size + 1, 4, none⟩), .int .u32 (b.med : Nat), .bool true, .bool true, .bool true, .pointer (some ⟨w.heap.size, 5, none⟩), .bool a.hasPref, .pointer (some ⟨w.heap.size + 1, 5, none⟩), .bool b.hasPref, .bool false, .bool false, .bool false, undef, undef, undef, undef, undef, .bool false, .bool false, undef, undef, undef, undef, undef, .bool false, .bool false, undef, undef, undef, undef, undef, .bool false, .bool false, undef, undef, undef, undef, undef, .bool false, .bool false, undef, undef, undef, undef, undef, .bool false, .bool false, undef, undef, undef, undef, undef, .bool false, .bool false, undef, undef, undef, undef, undef, .bool false, .bool false, undef, undef, undef, undef, undef, .bool false, .bool false, undef, undef, undef, undef, undef, .bool false, .bool false, undef, undef, undef, undef, undef, .bool false, .bool false, undef, undef, undef, undef, undef, .bool false], defers := [] }) (by as_aux_lemma => kernel_rfl) ?_)
      go_ret
      exact ⟨by rw [HF.out]; rfl, HB0.out⟩
  have q4 : (a.hasPref == b.hasPref) = true := beq_iff_eq.2 q
  have n4 : (a.hasPref != b.hasPref) = false := by simp [q]
  have E4 := Lib.hid q
  clear q
  go_wp2_with (with_reducible show wpList _ _ _ (⟨some 39, _, _, _, _, _⟩ :: _) _ _; refine StopB ?_)
  refine StopA ?_
  by_cases q : a.pref = b.pref
  case neg =>
    have HF : Hid (r = false) := by show _ = _; rw [← HR.out]; exact decide_eq_false (fun e => q (by have := (AtC.eq_iff.2 e).2.2.2.2.2.1; exact this))
    clear HQp HQm HQx HQl HQk HR hlt hld HC0 HD0 HOA0 HOB0
    have q5 : ((a.pref : Int) == (b.pref : Int)) = false := beq_eq_false_iff_ne.2 (by omega)
    have n5 : ((a.pref : Int) != (b.pref : Int)) = true := by rw [bne, q5]; rfl
    clear q
    as_aux_lemma =>
      go_wp2_with (with_reducible show wpList _ _ _ (⟨some 47, _, _, _, _, _⟩ :: _) _ _; refine wpList_pure (a' := { tmps := #[.agg a.ar, .agg b.ar, .pointer (some ⟨w.heap.size, 0, none⟩), .pointer (some ⟨w.heap.size + 1, 0, none⟩), .bool false, .pointer (some ⟨w.heap.size, 0, none⟩), .int .i64 a.origin, .pointer (some ⟨w.heap.size + 1, 0, none⟩), .int .i64 b.origin, .bool true, .bool true, .pointer (some ⟨w.heap.size, 2, none⟩), .string a.next, .pointer (some ⟨w.heap.size + 1, 2, none⟩), .string b.next, .bool true, .bool true, .bool true, .pointer (some ⟨w.heap.size, 3, none⟩), .bool a.hasMed, .pointer (some ⟨w.heap.size + 1, 3, none⟩), .bool b.hasMed, .bool true, .bool true, .bool true, .pointer (some ⟨w.heap.size, 4, none⟩), .int .u32 (a.med : Nat), .pointer (some ⟨w.heap.size + 1, 4, none⟩), .int .u32 (b.med : Nat), .bool true, .bool true, .bool true, .pointer (some ⟨w.heap.size, 5, none⟩), .bool a.hasPref, .pointer (some ⟨w.heap.size + 1, 5, none⟩), .bool b.hasPref, .bool true, .bool true, .bool true, .pointer (some ⟨w.heap.size, 6, none⟩), .int .u32 (a.pref : Nat), .pointer (some ⟨w.heap.size + 1, 6, none⟩), .int .u32 (b.pref : Nat), .bool false, .bool false, .bool false, undef, undef, undef, undef, undef, .bool false, .bool false, undef, undef, undef, undef, undef, .bool false, .bool false, undef, undef, undef, undef, undef, .bool false, .bool false, undef, undef, undef, undef, undef, .bool false, .bool false, undef, undef, undef, undef, undef, .bool false, .bool false, undef, undef, undef, undef, undef, .bool false, .bool false, undef, undef, undef, undef, undef, .bool false, .bool false, undef, undef, undef, undef, undef, .bool false, .bool false, undef, undef, undef, undef, undef, .bool false, .bool false, undef, undef, undef, undef, undef, .bool false], defers := [] }) (by as_aux_lemma => kernel_rfl) ?_)
      go_ret
      exact ⟨by rw [HF.out]; rfl, HB0.out⟩
  have q5 : ((a.pref : Int) == (b.pref : Int)) = true := by rw [q]; simp
  have n5 : ((a.pref : Int) != (b.pref : Int)) = false := by rw [q]; simp
  have E5 := Lib.hid q
  clear q
  go_wp2_with (with_reducible show wpList _ _ _ (⟨some 46, _, _, _, _, _⟩ :: _) _ _; refine StopB ?_)
  refine StopA ?_
  by_cases q : a.atomic = b.atomic
  case neg =>
    have HF : Hid (r = false) := by show _ = _; rw [← HR.out]; exact decide_eq_false (fun e => q (by have := (AtC.eq_iff.2 e).2.2.2.2.2.2.1; exact this))
    clear HQp HQm HQx HQl HQk HR hlt hld HC0 HD0 HOA0 HOB0
    have q6 : (a.atomic == b.atomic) = false := beq_eq_false_iff_ne.2 q
    have n6 : (a.atomic != b.atomic) = true := by rw [bne, q6]; rfl
    clear q
    as_aux_lemma =>
      go_wp2_with (with_reducible show wpList _ _ _ (⟨some 54, _, _, _, _, _⟩ :: _) _ _; refine wpList_pure (a' := { tmps := #[.agg a.ar, .agg b.ar, .pointer (some ⟨w.heap.size, 0, none⟩), .pointer (some ⟨w.heap.size + 1, 0, none⟩), .bool false, .pointer (some ⟨w.heap.size, 0, none⟩), .int .i64 a.origin, .pointer (some ⟨w.heap.size + 1, 0, none⟩), .int .i64 b.origin, .bool true, .bool true, .pointer (some ⟨w.heap.size, 2, none⟩), .string a.next, .pointer (some ⟨w.heap.size + 1, 2, none⟩), .string b.next, .bool true, .bool true, .bool true, .pointer (some ⟨w.heap.size, 3, none⟩), .bool a.hasMed, .pointer (some ⟨w.heap.size + 1, 3, none⟩), .bool b.hasMed, .bool true, .bool true, .bool true, .pointer (some ⟨w.heap.size, 4, none⟩), .int .u32 (a.med : Nat), .pointer (some ⟨w.heap.size + 1, 4, none⟩), .int .u32 (b.med : Nat), .bool true, .bool true, .bool true, .pointer (some ⟨w.heap.size, 5, none⟩), .bool a.hasPref, .pointer (some ⟨w.heap.size + 1, 5, none⟩), .bool b.hasPref, .bool true, .bool true, .bool true, .pointer (some ⟨w.heap.size, 6, none⟩), .int .u32 (a.pref : Nat), .pointer (some ⟨w.heap.size + 1, 6, none⟩), .int .u32 (b.pref : Nat), .bool true, .bool true, .bool true, .pointer (some ⟨w.heap.size, 7, none⟩), .bool a.atomic, .pointer (some ⟨w.heap.size + 1, 7, none⟩), .bool b.atomic, .bool false, .bool false, .bool false, undef, undef, undef, undef, undef, .bool false, .bool false, undef, undef, undef, undef, undef, .bool false, .bool false, undef, undef, undef, undef, undef, .bool false, .bool false, undef, undef, undef, undef, undef, .bool false, .bool false, undef, undef, undef, undef, undef, .bool false, .bool false, undef, undef, undef, undef, undef, .bool false, .bool false, undef, undef, undef, undef, undef, .bool false, .bool false, undef, undef, undef, undef, undef, .bool false, .bool false, undef, undef, undef, undef, undef, .bool false], defers := [] }) (by as_aux_lemma => kernel_rfl) ?_)
      go_ret
      exact ⟨by rw [HF.out]; rfl, HB0.out⟩
  have q6 : (a.atomic == b.atomic) = true := beq_iff_eq.2 q
  have n6 : (a.atomic != b.atomic) = false := by simp [q]
  have E6 := Lib.hid q
  clear q
  go_wp2_with (with_reducible show wpList _ _ _ (⟨some 53, _, _, _, _, _⟩ :: _) _ _; refine StopB ?_)
  refine StopA ?_
  by_cases q : a.aggAs = b.aggAs
  case neg =>
    have HF : Hid (r = false) := by show _ = _; rw [← HR.out]; exact decide_eq_false (fun e => q (by have := (AtC.eq_iff.2 e).2.2.2.2.2.2.2.1; exact this))
    clear HQp HQm HQx HQl HQk HR hlt hld HC0 HD0 HOA0 HOB0
    have q7 : ((a.aggAs : Int) == (b.aggAs : Int)) = false := beq_eq_false_iff_ne.2 (by omega)
    have n7 : ((a.aggAs : Int) != (b.aggAs : Int)) = true := by rw [bne, q7]; rfl
    clear q
    as_aux_lemma =>
      go_wp2_with (with_reducible show wpList _ _ _ (⟨some 61, _, _, _, _, _⟩ :: _) _ _; refine wpList_pure (a' := { tmps := #[.agg a.ar, .agg b.ar, .pointer (some ⟨w.heap.size, 0, none⟩), .pointer (some ⟨w.heap.size + 1, 0, none⟩), .bool false, .pointer (some ⟨w.heap.size, 0, none⟩), .int .i64 a.origin, .pointer (some ⟨w.heap.size + 1, 0, none⟩), .int .i64 b.origin, .bool true, .bool true, .pointer (some ⟨w.heap.size, 2, none⟩), .string a.next, .pointer (some ⟨w.heap.size + 1, 2, none⟩), .string b.next, .bool true, .bool true, .bool true, .pointer (some ⟨w.heap.size, 3, none⟩), .bool a.hasMed, .pointer (some ⟨w.heap.size + 1, 3, none⟩), .bool b.hasMed, .bool true, .bool true, .bool true, .pointer (some ⟨w.heap.size, 4, none⟩), .int .u32 (a.med : Nat), .pointer (some ⟨w.heap.size + 1, 4, none⟩), .int .u32 (b.med : Nat), .bool true, .bool true, .bool true, .pointer (some ⟨w.heap.size, 5, none⟩), .bool a.hasPref, .pointer (some ⟨w.heap.size + 1, 5, none⟩), .bool b.hasPref, .bool true, .bool true, .bool true, .pointer (some ⟨w.heap.size, 6, none⟩), .int .u32 (a.pref : Nat), .pointer (some ⟨w.heap.size + 1, 6, none⟩), .int .u32 (b.pref : Nat), .bool true, .bool true, .bool true, .pointer (some ⟨w.heap.size, 7, none⟩), .bool a.atomic, .pointer (some ⟨w.heap.size + 1, 7, none⟩), .bool b.atomic, .bool true, .bool true, .bool true, .pointer (some ⟨w.heap.size, 8, none⟩), .int .u32 (a.aggAs : Nat), .pointer (some ⟨w.heap.size + 1, 8, none⟩), .int .u32 (b.aggAs : Nat), .bool false, .bool false, .bool false, undef, undef, undef, undef, undef, .bool false, .bool false, undef, undef, undef, undef, undef, .bool false, .bool false, undef, undef, undef, undef, undef, .bool false, .bool false, undef, undef, undef, undef, undef, .bool false, .bool false, undef, undef, undef, undef, undef, .bool false, .bool false, undef, undef, undef, undef, undef, .bool false, .bool false, undef, undef, undef, undef, undef, .bool false, .bool false, undef, undef, undef, undef, undef, .bool false], defers := [] }) (by as_aux_lemma => kernel_rfl) ?_)
      go_ret
      exact ⟨by rw [HF.out]; rfl, HB0.out⟩
  have q7 : ((a.aggAs : Int) == (b.aggAs : Int)) = true := by rw [q]; simp
  have n7 : ((a.aggAs : Int) != (b.aggAs : Int)) = false := by rw [q]; simp
  have E7 := Lib.hid q
  clear q
  go_wp2_with (with_reducible show wpList _ _ _ (⟨some 60, _, _, _, _, _⟩ :: _) _ _; refine StopB ?_)
  refine StopA ?_
  by_cases q : a.aggId = b.aggId
  case neg =>
    have HF : Hid (r = false) := by show _ = _; rw [← HR.out]; exact decide_eq_false (fun e => q (by have := (AtC.eq_iff.2 e).2.2.2.2.2.2.2.2.1; exact this))
    clear HQp HQm HQx HQl HQk HR hlt hld HC0 HD0 HOA0 HOB0
    have q8 : ((a.aggId : Int) == (b.aggId : Int)) = false := beq_eq_false_iff_ne.2 (by omega)
    have n8 : ((a.aggId : Int) != (b.aggId : Int)) = true := by rw [bne, q8]; rfl
    clear q
    as_aux_lemma =>
      go_wp2_with (with_reducible show wpList _ _ _ (⟨some 68, _, _, _, _, _⟩ :: _) _ _; refine wpList_pure (a' := { tmps := #[.agg a.ar, .agg b.ar, .pointer (some ⟨w.heap.size, 0, none⟩), .pointer (some ⟨w.heap.size + 1, 0, none⟩), .bool false, .pointer (some ⟨w.heap.size, 0, none⟩), .int .i64 a.origin, .pointer (some ⟨w.heap.size + 1, 0, none⟩), .int .i64 b.origin, .bool true, .bool true, .pointer (some ⟨w.heap.size, 2, none⟩), .string a.next, .pointer (some ⟨w.heap.size + 1, 2, none⟩), .string b.next, .bool true, .bool true, .bool true, .pointer (some ⟨w.heap.size, 3, none⟩), .bool a.hasMed, .pointer (some ⟨w.heap.size + 1, 3, none⟩), .bool b.hasMed, .bool true, .bool true, .bool true, .pointer (some ⟨w.heap.size, 4, none⟩), .int .u32 (a.med : Nat), .pointer (some ⟨w.heap.size + 1, 4, none⟩), .int .u32 (b.med : Nat), .bool true, .bool true, .bool true, .pointer (some ⟨w.heap.size, 5, none⟩), .bool a.hasPref, .pointer (some ⟨w.heap.size + 1, 5, none⟩), .bool b.hasPref, .bool true, .bool true, .bool true, .pointer (some ⟨w.heap.size, 6, none⟩), .int .u32 (a.pref : Nat), .pointer (some ⟨w.heap.size + 1, 6, none⟩), .int .u32 (b.pref : Nat), .bool true, .bool true, .bool true, .pointer (some ⟨w.heap.size, 7, none⟩), .bool a.atomic, .pointer (some ⟨w.heap.size + 1, 7, none⟩), .bool b.atomic, .bool true, .bool true, .bool true, .pointer (some ⟨w.heap.size, 8, none⟩), .int .u32 (a.aggAs : Nat), .pointer (some ⟨w.heap.size + 1, 8, none⟩), .int .u32 (b.aggAs : Nat), .bool true, .bool true, .bool true, .pointer (some ⟨w.heap.size, 9, none⟩), .int .u32 (a.aggId : Nat), .pointer (some ⟨w.heap.size + 1, 9, none⟩), .int .u32 (b.aggId : Nat), .bool false, .bool false, .bool false, undef, undef, undef, undef, undef, .bool false, .bool false, undef, undef, undef, undef, undef, .bool false, .bool false, undef, undef, undef, undef, undef, .bool false, .bool false, undef, undef, undef, undef, undef, .bool false, .bool false, undef, undef, undef, undef, undef, .bool false, .bool false, undef, undef, undef, undef, undef, .bool false, .bool false, undef, undef, undef, undef, undef, .bool false], defers := [] }) (by as_aux_lemma => kernel_rfl) ?_)
      go_ret
      exact ⟨by rw [HF.out]; rfl, HB0.out⟩
  have q8 : ((a.aggId : Int) == (b.aggId : Int)) = true := by rw [q]; simp
  have n8 : ((a.aggId : Int) != (b.aggId : Int)) = false := by rw [q]; simp
  have E8 := Lib.hid q
  clear q
  go_wp2_with (with_reducible show wpList _ _ _ (⟨some 67, _, _, _, _, _⟩ :: _) _ _; refine StopB ?_)
  refine StopA ?_
  by_cases q : a.hasOrig = b.hasOrig
  case neg =>
    have HF : Hid (r = false) := by show _ = _; rw [← HR.out]; exact decide_eq_false (fun e => q (by have := (AtC.eq_iff.2 e).2.2.2.2.2.2.2.2.2.1; exact this))
    clear HQp HQm HQx HQl HQk HR hlt hld HC0 HD0 HOA0 HOB0
    have q9 : (a.hasOrig == b.hasOrig) = false := beq_eq_false_iff_ne.2 q
    have n9 : (a.hasOrig != b.hasOrig) = true := by rw [bne, q9]; rfl
    clear q
    as_aux_lemma =>
      go_wp2_with (with_reducible show wpList _ _ _ (⟨some 75, _, _, _, _, _⟩ :: _) _ _; refine wpList_pure (a' := { tmps := #[.agg a.ar, .agg b.ar, .pointer (some ⟨w.heap.size, 0, none⟩), .pointer (some ⟨w.heap.size + 1, 0, none⟩), .bool false, .pointer (some ⟨w.heap.size, 0, none⟩), .int .i64 a.origin, .pointer (some ⟨w.heap.size + 1, 0, none⟩), .int .i64 b.origin, .bool true, .bool true, .pointer (some ⟨w.heap.size, 2, none⟩), .string a.next, .pointer (some ⟨w.heap.size + 1, 2, none⟩), .string b.next, .bool true, .bool true, .bool true, .pointer (some ⟨w.heap.size, 3, none⟩), .bool a.hasMed, .pointer (some ⟨w.heap.size + 1, 3, none⟩), .bool b.hasMed, .bool true, .bool true, .bool true, .pointer (some ⟨w.heap.size, 4, none⟩), .int .u32 (a.med : Nat), .pointer (some ⟨w.heap.size + 1, 4, none⟩), .int .u32 (b.med : Nat), .bool true, .bool true, .bool true, .pointer (some ⟨w.heap.size, 5, none⟩), .bool a.hasPref, .pointer (some ⟨w.heap.size + 1, 5, none⟩), .bool b.hasPref, .bool true, .bool true, .bool true, .pointer (some ⟨w.heap.size, 6, none⟩), .int .u32 (a.pref : Nat), .pointer (some ⟨w.heap.size + 1, 6, none⟩), .int .u32 (b.pref : Nat), .bool true, .bool true, .bool true, .pointer (some ⟨w.heap.size, 7, none⟩), .bool a.atomic, .pointer (some ⟨w.heap.size + 1, 7, none⟩), .bool b.atomic, .bool true, .bool true, .bool true, .pointer (some ⟨w.heap.size, 8, none⟩), .int .u32 (a.aggAs : Nat), .pointer (some ⟨w.heap.size + 1, 8, none⟩), .int .u32 (b.aggAs : Nat), .bool true, .bool true, .bool true, .pointer (some ⟨w.heap.size, 9, none⟩), .int .u32 (a.aggId : Nat), .pointer (some ⟨w.heap.size + 1, 9, none⟩), .int .u32 (b.aggId : Nat), .bool true, .bool true, .bool true, .pointer (some ⟨w.heap.size, 13, none⟩), .bool a.hasOrig, .pointer (some ⟨w.heap.size + 1, 13, none⟩), .bool b.hasOrig, .bool false, .bool false, .bool false, undef, undef, undef, undef, undef, .bool false, .bool false, undef, undef, undef, undef, undef, .bool false, .bool false, undef, undef, undef, undef, undef, .bool false, .bool false, undef, undef, undef, undef, undef, .bool false, .bool false, undef, undef, undef, undef, undef, .bool false, .bool false, undef, undef, undef, undef, undef, .bool false], defers := [] }) (by as_aux_lemma => kernel_rfl) ?_)
      go_ret
      exact ⟨by rw [HF.out]; rfl, HB0.out⟩
  have q9 : (a.hasOrig == b.hasOrig) = true := beq_iff_eq.2 q
  have n9 : (a.hasOrig != b.hasOrig) = false := by simp [q]
  have E9 := Lib.hid q
  clear q
  go_wp2_with (with_reducible show wpList _ _ _ (⟨some 74, _, _, _, _, _⟩ :: _) _ _; refine StopB ?_)
  refine StopA ?_
  by_cases q : a.orig = b.orig
  case neg =>
    have HF : Hid (r = false) := by show _ = _; rw [← HR.out]; exact decide_eq_false (fun e => q (by have := (AtC.eq_iff.2 e).2.2.2.2.2.2.2.2.2.2.1; exact this))
    clear HQp HQm HQx HQl HQk HR hlt hld HC0 HD0 HOA0 HOB0
    have q10 : ((a.orig : Int) == (b.orig : Int)) = false := beq_eq_false_iff_ne.2 (by omega)
    have n10 : ((a.orig : Int) != (b.orig : Int)) = true := by rw [bne, q10]; rfl
    clear q
    as_aux_lemma =>
      go_wp2_with (with_reducible show wpList _ _ _ (⟨some 82, _, _, _, _, _⟩ :: _) _ _; refine wpList_pure (a' := { tmps := #[.agg a.ar, .agg b.ar, .pointer (some ⟨w.heap.size, 0, none⟩), .pointer (some ⟨w.heap.size + 1, 0, none⟩), .bool false, .pointer (some ⟨w.heap.size, 0, none⟩), .int .i64 a.origin, .pointer (some ⟨w.heap.size + 1, 0, none⟩), .int .i64 b.origin, .bool true, .bool true, .pointer (some ⟨w.heap.size, 2, none⟩), .string a.next, .pointer (some ⟨w.heap.size + 1, 2, none⟩), .string b.next, .bool true, .bool true, .bool true, .pointer (some ⟨w.heap.size, 3, none⟩), .bool a.hasMed, .pointer (some ⟨w.heap.size + 1, 3, none⟩), .bool b.hasMed, .bool true, .bool true, .bool true, .pointer (some ⟨w.heap.size, 4, none⟩), .int .u32 (a.med : Nat), .pointer (some ⟨w.heap.size + 1, 4, none⟩), .int .u32 (b.med : Nat), .bool true, .bool true, .bool true, .pointer (some ⟨w.heap.size, 5, none⟩), .bool a.hasPref, .pointer (some ⟨w.heap.size + 1, 5, none⟩), .bool b.hasPref, .bool true, .bool true, .bool true, .pointer (some ⟨w.heap.size, 6, none⟩), .int .u32 (a.pref : Nat), .pointer (some ⟨w.heap.size + 1, 6, none⟩), .int .u32 (b.pref : Nat), .bool true, .bool true, .bool true, .pointer (some ⟨w.heap.size, 7, none⟩), .bool a.atomic, .pointer (some ⟨w.heap.size + 1, 7, none⟩), .bool b.atomic, .bool true, .bool true, .bool true, .pointer (some ⟨w.heap.size, 8, none⟩), .int .u32 (a.aggAs : Nat), .pointer (some ⟨w.heap.size + 1, 8, none⟩), .int .u32 (b.aggAs : Nat), .bool true, .bool true, .bool true, .pointer (some ⟨w.heap.size, 9, none⟩), .int .u32 (a.aggId : Nat), .pointer (some ⟨w.heap.size + 1, 9, none⟩), .int .u32 (b.aggId : Nat), .bool true, .bool true, .bool true, .pointer (some ⟨w.heap.size, 13, none⟩), .bool a.hasOrig, .pointer (some ⟨w.heap.size + 1, 13, none⟩), .bool b.hasOrig, .bool true, .bool true, .bool true, .pointer (some ⟨w.heap.size, 14, none⟩), .int .u32 (a.orig : Nat), .pointer (some ⟨w.heap.size + 1, 14, none⟩), .int .u32 (b.orig : Nat), .bool false, .bool false, .bool false, undef, undef, undef, undef, undef, .bool false, .bool false, undef, undef, undef, undef, undef, .bool false, .bool false, undef, undef, undef, undef, undef, .bool false, .bool false, undef, undef, undef, undef, undef, .bool false, .bool false, undef, undef, undef, undef, undef, .bool false], defers := [] }) (by as_aux_lemma => kernel_rfl) ?_)
      go_ret
      exact ⟨by rw [HF.out]; rfl, HB0.out⟩
  have q10 : ((a.orig : Int) == (b.orig : Int)) = true := by rw [q]; simp
  have n10 : ((a.orig : Int) != (b.orig : Int)) = false := by rw [q]; simp
  have E10 := Lib.hid q
  clear q
  by_cases q : a.segs.map Sg.c = b.segs.map Sg.c
  case neg =>
    have HF : Hid (r = false) := by show _ = _; rw [← HR.out]; exact decide_eq_false (fun e => q (by have := (AtC.eq_iff.2 e).2.2.2.2.2.2.2.2.2.2.2.1; exact this))
    rw [decide_eq_false q] at HQp
    clear q
    as_aux_lemma =>
      go_wp2_with fail
      refine (HQp.out _ HOA0.out HOB0.out).mono ?_
      rintro e v1 ⟨rfl, hb⟩
      have HB1 : Hid (Below w.heap.size w v1) := HB0.out.trans (hb.mono HB0.out.size)
      clear hb c0 c1 c2 c3 c4 c5 c6 c7 c8 c9 c10 c11 c12 c13 c14 c15 d0 d1 d2 d3 d4 d5 d6 d7 d8 d9 d10 d11 d12 d13 d14 d15
      go_wp2_with fail
      go_ret
      exact ⟨by rw [HF.out]; rfl, HB1.out⟩
  have E11 := Lib.hid q
  rw [decide_eq_true q] at HQp
  clear q
  go_wp2_with fail
  refine (HQp.out _ HOA0.out HOB0.out).mono ?_
  rintro e v1 ⟨rfl, hb⟩
  have HB1 : Hid (Below w.heap.size w v1) := HB0.out.trans (hb.mono HB0.out.size)
  have HC1 : Hid (CellsAt v1 w.heap.size a.ar 41) := HC0.out.below hb HC0.out.lt
  have HD1 : Hid (CellsAt v1 (w.heap.size + 1) b.ar 41) := HD0.out.below hb HD0.out.lt
  have HOA1 : Hid (AtrOk v1 a) := HOA0.out.below hb (Nat.le_refl _)
  have HOB1 : Hid (AtrOk v1 b) := HOB0.out.below hb (Nat.le_refl _)
  clear hb c0 c1 c2 c3 c4 c5 c6 c7 c8 c9 c10 c11 c12 c13 c14 c15 d0 d1 d2 d3 d4 d5 d6 d7 d8 d9 d10 d11 d12 d13 d14 d15
  obtain ⟨c0, c1, c2, c3, c4, c5, c6, c7, c8, c9, c10, c11, c12, c13, c14, c15⟩ := atr_cells HC1.out
  obtain ⟨d0, d1, d2, d3, d4, d5, d6, d7, d8, d9, d10, d11, d12, d13, d14, d15⟩ := atr_cells HD1.out
  by_cases q : a.comms = b.comms
  case neg =>
    have HF : Hid (r = false) := by show _ = _; rw [← HR.out]; exact decide_eq_false (fun e => q (by have := (AtC.eq_iff.2 e).2.2.2.2.2.2.2.2.2.2.2.2.1; exact this))
    rw [decide_eq_false q] at HQm
    clear q
    as_aux_lemma =>
      go_wp2_with fail
      refine (HQm.out _ HOA1.out HOB1.out).mono ?_
      rintro e v2 ⟨rfl, hb⟩
      have HB2 : Hid (Below w.heap.size w v2) := HB1.out.trans (hb.mono HB1.out.size)
      clear hb c0 c1 c2 c3 c4 c5 c6 c7 c8 c9 c10 c11 c12 c13 c14 c15 d0 d1 d2 d3 d4 d5 d6 d7 d8 d9 d10 d11 d12 d13 d14 d15
      go_wp2_with fail
      go_ret
      exact ⟨by rw [HF.out]; rfl, HB2.out⟩
  have E12 := Lib.hid q
  rw [decide_eq_true q] at HQm
  clear q
  go_wp2_with fail
  refine (HQm.out _ HOA1.out HOB1.out).mono ?_
  rintro e v2 ⟨rfl, hb⟩
  have HB2 : Hid (Below w.heap.size w v2) := HB1.out.trans (hb.mono HB1.out.size)
  have HC2 : Hid (CellsAt v2 w.heap.size a.ar 41) := HC1.out.below hb HC1.out.lt
  have HD2 : Hid (CellsAt v2 (w.heap.size + 1) b.ar 41) := HD1.out.below hb HD1.out.lt
  have HOA2 : Hid (AtrOk v2 a) := HOA1.out.below hb (Nat.le_refl _)
  have HOB2 : Hid (AtrOk v2 b) := HOB1.out.below hb (Nat.le_refl _)
  clear hb c0 c1 c2 c3 c4 c5 c6 c7 c8 c9 c10 c11 c12 c13 c14 c15 d0 d1 d2 d3 d4 d5 d6 d7 d8 d9 d10 d11 d12 d13 d14 d15
  obtain ⟨c0, c1, c2, c3, c4, c5, c6, c7, c8, c9, c10, c11, c12, c13, c14, c15⟩ := atr_cells HC2.out
  obtain ⟨d0, d1, d2, d3, d4, d5, d6, d7, d8, d9, d10, d11, d12, d13, d14, d15⟩ := atr_cells HD2.out
  by_cases q : a.exts = b.exts
  case neg =>
    have HF : Hid (r = false) := by show _ = _; rw [← HR.out]; exact decide_eq_false (fun e => q (by have := (AtC.eq_iff.2 e).2.2.2.2.2.2.2.2.2.2.2.2.2.1; exact this))
    rw [decide_eq_false q] at HQx
    clear q
    as_aux_lemma =>
      go_wp2_with fail
      refine (HQx.out _ HOA2.out HOB2.out).mono ?_
      rintro e v3 ⟨rfl, hb⟩
      have HB3 : Hid (Below w.heap.size w v3) := HB2.out.trans (hb.mono HB2.out.size)
      clear hb c0 c1 c2 c3 c4 c5 c6 c7 c8 c9 c10 c11 c12 c13 c14 c15 d0 d1 d2 d3 d4 d5 d6 d7 d8 d9 d10 d11 d12 d13 d14 d15
      go_wp2_with fail
      go_ret
      exact ⟨by rw [HF.out]; rfl, HB3.out⟩
  have E13 := Lib.hid q
  rw [decide_eq_true q] at HQx
  clear q
  go_wp2_with fail
  refine (HQx.out _ HOA2.out HOB2.out).mono ?_
  rintro e v3 ⟨rfl, hb⟩
  have HB3 : Hid (Below w.heap.size w v3) := HB2.out.trans (hb.mono HB2.out.size)
  have HC3 : Hid (CellsAt v3 w.heap.size a.ar 41) := HC2.out.below hb HC2.out.lt
  have HD3 : Hid (CellsAt v3 (w.heap.size + 1) b.ar 41) := HD2.out.below hb HD2.out.lt
  have HOA3 : Hid (AtrOk v3 a) := HOA2.out.below hb (Nat.le_refl _)
  have HOB3 : Hid (AtrOk v3 b) := HOB2.out.below hb (Nat.le_refl _)
  clear hb c0 c1 c2 c3 c4 c5 c6 c7 c8 c9 c10 c11 c12 c13 c14 c15 d0 d1 d2 d3 d4 d5 d6 d7 d8 d9 d10 d11 d12 d13 d14 d15
  obtain ⟨c0, c1, c2, c3, c4, c5, c6, c7, c8, c9, c10, c11, c12, c13, c14, c15⟩ := atr_cells HC3.out
  obtain ⟨d0, d1, d2, d3, d4, d5, d6, d7, d8, d9, d10, d11, d12, d13, d14, d15⟩ := atr_cells HD3.out
  by_cases q : a.larges = b.larges
  case neg =>
    have HF : Hid (r = false) := by show _ = _; rw [← HR.out]; exact decide_eq_false (fun e => q (by have := (AtC.eq_iff.2 e).2.2.2.2.2.2.2.2.2.2.2.2.2.2.1; exact this))
    rw [decide_eq_false q] at HQl
    clear q
    as_aux_lemma =>
      go_wp2_with fail
      refine (HQl.out _ HOA3.out HOB3.out).mono ?_
      rintro e v4 ⟨rfl, hb⟩
      have HB4 : Hid (Below w.heap.size w v4) := HB3.out.trans (hb.mono HB3.out.size)
      clear hb c0 c1 c2 c3 c4 c5 c6 c7 c8 c9 c10 c11 c12 c13 c14 c15 d0 d1 d2 d3 d4 d5 d6 d7 d8 d9 d10 d11 d12 d13 d14 d15
      go_wp2_with fail
      go_ret
      exact ⟨by rw [HF.out]; rfl, HB4.out⟩
  have E14 := Lib.hid q
  rw [decide_eq_true q] at HQl
  clear q
  go_wp2_with fail
  refine (HQl.out _ HOA3.out HOB3.out).mono ?_
  rintro e v4 ⟨rfl, hb⟩
  have HB4 : Hid (Below w.heap.size w v4) := HB3.out.trans (hb.mono HB3.out.size)
  have HC4 : Hid (CellsAt v4 w.heap.size a.ar 41) := HC3.out.below hb HC3.out.lt
  have HD4 : Hid (CellsAt v4 (w.heap.size + 1) b.ar 41) := HD3.out.below hb HD3.out.lt
  have HOA4 : Hid (AtrOk v4 a) := HOA3.out.below hb (Nat.le_refl _)
  have HOB4 : Hid (AtrOk v4 b) := HOB3.out.below hb (Nat.le_refl _)
  clear hb c0 c1 c2 c3 c4 c5 c6 c7 c8 c9 c10 c11 c12 c13 c14 c15 d0 d1 d2 d3 d4 d5 d6 d7 d8 d9 d10 d11 d12 d13 d14 d15
  obtain ⟨c0, c1, c2, c3, c4, c5, c6, c7, c8, c9, c10, c11, c12, c13, c14, c15⟩ := atr_cells HC4.out
  obtain ⟨d0, d1, d2, d3, d4, d5, d6, d7, d8, d9, d10, d11, d12, d13, d14, d15⟩ := atr_cells HD4.out
  by_cases q : a.clus = b.clus
  case neg =>
    have HF : Hid (r = false) := by show _ = _; rw [← HR.out]; exact decide_eq_false (fun e => q (by have := (AtC.eq_iff.2 e).2.2.2.2.2.2.2.2.2.2.2.2.2.2.2; exact this))
    rw [decide_eq_false q] at HQk
    clear q
    as_aux_lemma =>
      go_wp2_with fail
      refine (HQk.out _ HOA4.out HOB4.out).mono ?_
      rintro e v5 ⟨rfl, hb⟩
      have HB5 : Hid (Below w.heap.size w v5) := HB4.out.trans (hb.mono HB4.out.size)
      clear hb c0 c1 c2 c3 c4 c5 c6 c7 c8 c9 c10 c11 c12 c13 c14 c15 d0 d1 d2 d3 d4 d5 d6 d7 d8 d9 d10 d11 d12 d13 d14 d15
      go_wp2_with fail
      go_ret
      exact ⟨by rw [HF.out]; rfl, HB5.out⟩
  have E15 := Lib.hid q
  rw [decide_eq_true q] at HQk
  clear q
  go_wp2_with fail
  refine (HQk.out _ HOA4.out HOB4.out).mono ?_
  rintro e v5 ⟨rfl, hb⟩
  have HB5 : Hid (Below w.heap.size w v5) := HB4.out.trans (hb.mono HB4.out.size)
  have HC5 : Hid (CellsAt v5 w.heap.size a.ar 41) := HC4.out.below hb HC4.out.lt
  have HD5 : Hid (CellsAt v5 (w.heap.size + 1) b.ar 41) := HD4.out.below hb HD4.out.lt
  have HOA5 : Hid (AtrOk v5 a) := HOA4.out.below hb (Nat.le_refl _)
  have HOB5 : Hid (AtrOk v5 b) := HOB4.out.below hb (Nat.le_refl _)
  clear hb c0 c1 c2 c3 c4 c5 c6 c7 c8 c9 c10 c11 c12 c13 c14 c15 d0 d1 d2 d3 d4 d5 d6 d7 d8 d9 d10 d11 d12 d13 d14 d15
  obtain ⟨c0, c1, c2, c3, c4, c5, c6, c7, c8, c9, c10, c11, c12, c13, c14, c15⟩ := atr_cells HC5.out
  obtain ⟨d0, d1, d2, d3, d4, d5, d6, d7, d8, d9, d10, d11, d12, d13, d14, d15⟩ := atr_cells HD5.out
  have HT : Hid (r = true) := by show _ = _; rw [← HR.out]; exact decide_eq_true (AtC.eq_iff.1 ⟨E0.out, E1.out, E2.out, E3.out, E4.out, E5.out, E6.out, E7.out, E8.out, E9.out, E10.out, E11.out, E12.out, E13.out, E14.out, E15.out⟩)
  go_wp2_with fail
  go_ret
  exact ⟨by rw [HT.out]; rfl, HB5.out⟩
end Go.Proofs.Ytldpcliahfiloaa
