/-
  Several texts in one.
-/
import Derived.Test.YtojiieghjhjoaaaGreatMY23
set_option linter.unusedVariables false
set_option linter.unusedSimpArgs false
namespace Go.Proofs.YtojiieghjhjoaaaGreat
open Go.RowKit Go.MapKept Go.Shelf
open Go.Lib hiding intOf

set_option maxRecDepth 100000 in
set_option maxHeartbeats 16000000 in
theorem rsame_any (a b : Atr) (w : World) (h1 : AtrOk w a) (h2 : AtrOk w b) :
    Calls Tryz.prog 13 #[a.v, b.v] w fun e w' => e = .returned (.bool (decide (a.c = b.c))) ∧ Below w.heap.size w w' := by
  have HB0 : Hid (Below w.heap.size w ((w.alloc (.cells a.ar 33)).alloc (.cells b.ar 33))) := ((Below.refl _ _).alloc (Nat.le_refl _) _).alloc (by simp) _
  have HC0 : Hid (CellsAt ((w.alloc (.cells a.ar 33)).alloc (.cells b.ar 33)) w.heap.size a.ar 33) := (CellsAt.new _ _ _).alloc _
  have HD0 : Hid (CellsAt ((w.alloc (.cells a.ar 33)).alloc (.cells b.ar 33)) (w.heap.size + 1) b.ar 33) := by
    have h := CellsAt.new (w.alloc (.cells a.ar 33)) b.ar 33
    rwa [show (w.alloc (.cells a.ar 33)).heap.size = w.heap.size + 1 by simp] at h
  have HOA0 : Hid (AtrOk ((w.alloc (.cells a.ar 33)).alloc (.cells b.ar 33)) a) := h1.below HB0.out (Nat.le_refl _)
  have HOB0 : Hid (AtrOk ((w.alloc (.cells a.ar 33)).alloc (.cells b.ar 33)) b) := h2.below HB0.out (Nat.le_refl _)
  clear h1 h2
  have HQp : Hid (∀ W, AtrOk W a → AtrOk W b → Calls Tryz.prog 40 #[.slice a.pA a.segs.length a.pC, .slice b.pA b.segs.length b.pC] W fun e w' => e = .returned (.bool (decide (a.segs.map Sg.c = b.segs.map Sg.c))) ∧ Below W.heap.size W w') := fun W h1 h2 => rpsame_any _ _ _ _ _ _ _ h1.path h2.path
  have HQm : Hid (∀ W, AtrOk W a → AtrOk W b → Calls Tryz.prog 41 #[.slice a.mA a.comms.length a.mC, .slice b.mA b.comms.length b.mC] W fun e w' => e = .returned (.bool (decide (a.comms = b.comms))) ∧ Below W.heap.size W w') := fun W h1 h2 => sameas_any _ _ _ _ _ _ _ h1.mrd h2.mrd h1.mlen h2.mlen h1.mcap h2.mcap
  have HQk : Hid (∀ W, AtrOk W a → AtrOk W b → Calls Tryz.prog 41 #[.slice a.kA a.clus.length a.kC, .slice b.kA b.clus.length b.kC] W fun e w' => e = .returned (.bool (decide (a.clus = b.clus))) ∧ Below W.heap.size W w') := fun W h1 h2 => sameas_any _ _ _ _ _ _ _ h1.krd h2.krd h1.klen h2.klen h1.kcap h2.kcap
  have gx : a.exts.length ≤ a.xC ∧ a.xC ≤ 9223372036854775807 ∧ b.exts.length ≤ b.xC ∧ b.xC ≤ 9223372036854775807 := ⟨HOA0.out.xlen, HOA0.out.xcap, HOB0.out.xlen, HOB0.out.xcap⟩
  have gl : a.larges.length ≤ a.lC ∧ a.lC ≤ 9223372036854775807 ∧ b.larges.length ≤ b.lC ∧ b.lC ≤ 9223372036854775807 := ⟨HOA0.out.llen, HOA0.out.lcap, HOB0.out.llen, HOB0.out.lcap⟩
  obtain ⟨gx1, gx2, gx3, gx4⟩ := gx
  obtain ⟨gl1, gl2, gl3, gl4⟩ := gl
  generalize hr : decide (a.c = b.c) = r
  have HR := Lib.hid hr
  clear hr
  unfold Atr.v
  go_enter Tryz.func13, Tryz.ntmps13
  go_upto_region 1 with fail
  generalize (w.alloc (.cells a.ar 33)).alloc (.cells b.ar 33) = W at HB0 HC0 HD0 HOA0 HOB0 ⊢
  have hsW := HB0.out.size
  have hlt := HC0.out.lt
  have hld := HD0.out.lt
  obtain ⟨c0, c1, c2, c3, c4, c5, c6, c7, c8, c9, c10, c11, c12, c13, c14, c15⟩ := atr_cells HC0.out
  obtain ⟨d0, d1, d2, d3, d4, d5, d6, d7, d8, d9, d10, d11, d12, d13, d14, d15⟩ := atr_cells HD0.out
  refine wp_region_eq [{ dst := some 7, op := Op.fieldAddr 33 (Operand.tmp 2) 0, type := 0, pos := "ref.go:56", after := #[], guard := none }, { dst := some 8, op := Op.load 3 (Operand.tmp 7), type := 3, pos := "ref.go:56", after := #[{ on := 0, ground := Ground.data }], guard := none }, { dst := some 9, op := Op.fieldAddr 33 (Operand.tmp 3) 0, type := 0, pos := "ref.go:56", after := #[], guard := none }, { dst := some 10, op := Op.load 3 (Operand.tmp 9), type := 3, pos := "ref.go:56", after := #[{ on := 2, ground := Ground.data }], guard := none }, { dst := some 11, op := Op.binOp BinOp.neq 3 (Operand.tmp 8) (Operand.tmp 10) 3, type := 4, pos := "ref.go:56", after := #[{ on := 1, ground := Ground.data }, { on := 3, ground := Ground.data }], guard := none }, { dst := some 12, op := Op.move (Operand.tmp 11), type := 4, pos := "ref.go:56", after := #[{ on := 4, ground := Ground.data }], guard := none }, { dst := some 13, op := Op.fieldAddr 33 (Operand.tmp 2) 2, type := 0, pos := "ref.go:56", after := #[{ on := 5, ground := Ground.guard }], guard := some (5, false) }, { dst := some 14, op := Op.load 9 (Operand.tmp 13), type := 9, pos := "ref.go:56", after := #[{ on := 6, ground := Ground.data }, { on := 5, ground := Ground.guard }], guard := some (5, false) }, { dst := some 15, op := Op.fieldAddr 33 (Operand.tmp 3) 2, type := 0, pos := "ref.go:56", after := #[{ on := 5, ground := Ground.guard }], guard := some (5, false) }, { dst := some 16, op := Op.load 9 (Operand.tmp 15), type := 9, pos := "ref.go:56", after := #[{ on := 8, ground := Ground.data }, { on := 5, ground := Ground.guard }], guard := some (5, false) }, { dst := some 17, op := Op.binOp BinOp.neq 9 (Operand.tmp 14) (Operand.tmp 16) 9, type := 4, pos := "ref.go:56", after := #[{ on := 7, ground := Ground.data }, { on := 9, ground := Ground.data }, { on := 5, ground := Ground.guard }], guard := some (5, false) }, { dst := some 18, op := Op.pick (Operand.tmp 12) (Operand.const (Value.bool true)) (Operand.tmp 17), type := 4, pos := "ref.go:56", after := #[{ on := 5, ground := Ground.data }, { on := 10, ground := Ground.data }], guard := none }, { dst := some 19, op := Op.move (Operand.tmp 18), type := 4, pos := "ref.go:56", after := #[{ on := 11, ground := Ground.data }, { on := 5, ground := Ground.chain }], guard := none }, { dst := some 20, op := Op.fieldAddr 33 (Operand.tmp 2) 3, type := 0, pos := "ref.go:56", after := #[{ on := 12, ground := Ground.guard }], guard := some (12, false) }, { dst := some 21, op := Op.load 4 (Operand.tmp 20), type := 4, pos := "ref.go:56", after := #[{ on := 13, ground := Ground.data }, { on := 12, ground := Ground.guard }], guard := some (12, false) }, { dst := some 22, op := Op.fieldAddr 33 (Operand.tmp 3) 3, type := 0, pos := "ref.go:56", after := #[{ on := 12, ground := Ground.guard }], guard := some (12, false) }, { dst := some 23, op := Op.load 4 (Operand.tmp 22), type := 4, pos := "ref.go:56", after := #[{ on := 15, ground := Ground.data }, { on := 12, ground := Ground.guard }], guard := some (12, false) }, { dst := some 24, op := Op.binOp BinOp.neq 4 (Operand.tmp 21) (Operand.tmp 23) 4, type := 4, pos := "ref.go:56", after := #[{ on := 14, ground := Ground.data }, { on := 16, ground := Ground.data }, { on := 12, ground := Ground.guard }], guard := some (12, false) }, { dst := some 25, op := Op.pick (Operand.tmp 19) (Operand.const (Value.bool true)) (Operand.tmp 24), type := 4, pos := "ref.go:56", after := #[{ on := 12, ground := Ground.data }, { on := 17, ground := Ground.data }], guard := none }, { dst := some 26, op := Op.move (Operand.tmp 25), type := 4, pos := "ref.go:56", after := #[{ on := 18, ground := Ground.data }, { on := 12, ground := Ground.chain }], guard := none }, { dst := some 27, op := Op.fieldAddr 33 (Operand.tmp 2) 4, type := 0, pos := "ref.go:56", after := #[{ on := 19, ground := Ground.guard }], guard := some (19, false) }, { dst := some 28, op := Op.load 22 (Operand.tmp 27), type := 22, pos := "ref.go:56", after := #[{ on := 20, ground := Ground.data }, { on := 19, ground := Ground.guard }], guard := some (19, false) }, { dst := some 29, op := Op.fieldAddr 33 (Operand.tmp 3) 4, type := 0, pos := "ref.go:56", after := #[{ on := 19, ground := Ground.guard }], guard := some (19, false) }, { dst := some 30, op := Op.load 22 (Operand.tmp 29), type := 22, pos := "ref.go:56", after := #[{ on := 22, ground := Ground.data }, { on := 19, ground := Ground.guard }], guard := some (19, false) }, { dst := some 31, op := Op.binOp BinOp.neq 22 (Operand.tmp 28) (Operand.tmp 30) 22, type := 4, pos := "ref.go:56", after := #[{ on := 21, ground := Ground.data }, { on := 23, ground := Ground.data }, { on := 19, ground := Ground.guard }], guard := some (19, false) }, { dst := some 32, op := Op.pick (Operand.tmp 26) (Operand.const (Value.bool true)) (Operand.tmp 31), type := 4, pos := "ref.go:56", after := #[{ on := 19, ground := Ground.data }, { on := 24, ground := Ground.data }], guard := none }, { dst := some 33, op := Op.move (Operand.tmp 32), type := 4, pos := "ref.go:56", after := #[{ on := 25, ground := Ground.data }, { on := 19, ground := Ground.chain }], guard := none }, { dst := some 34, op := Op.fieldAddr 33 (Operand.tmp 2) 5, type := 0, pos := "ref.go:56", after := #[{ on := 26, ground := Ground.guard }], guard := some (26, false) }, { dst := some 35, op := Op.load 4 (Operand.tmp 34), type := 4, pos := "ref.go:56", after := #[{ on := 27, ground := Ground.data }, { on := 26, ground := Ground.guard }], guard := some (26, false) }, { dst := some 36, op := Op.fieldAddr 33 (Operand.tmp 3) 5, type := 0, pos := "ref.go:56", after := #[{ on := 26, ground := Ground.guard }], guard := some (26, false) }, { dst := some 37, op := Op.load 4 (Operand.tmp 36), type := 4, pos := "ref.go:56", after := #[{ on := 29, ground := Ground.data }, { on := 26, ground := Ground.guard }], guard := some (26, false) }, { dst := some 38, op := Op.binOp BinOp.neq 4 (Operand.tmp 35) (Operand.tmp 37) 4, type := 4, pos := "ref.go:56", after := #[{ on := 28, ground := Ground.data }, { on := 30, ground := Ground.data }, { on := 26, ground := Ground.guard }], guard := some (26, false) }, { dst := some 39, op := Op.pick (Operand.tmp 33) (Operand.const (Value.bool true)) (Operand.tmp 38), type := 4, pos := "ref.go:56", after := #[{ on := 26, ground := Ground.data }, { on := 31, ground := Ground.data }], guard := none }, { dst := some 40, op := Op.move (Operand.tmp 39), type := 4, pos := "ref.go:56", after := #[{ on := 32, ground := Ground.data }, { on := 26, ground := Ground.chain }], guard := none }, { dst := some 41, op := Op.fieldAddr 33 (Operand.tmp 2) 6, type := 0, pos := "ref.go:56", after := #[{ on := 33, ground := Ground.guard }], guard := some (33, false) }, { dst := some 42, op := Op.load 22 (Operand.tmp 41), type := 22, pos := "ref.go:56", after := #[{ on := 34, ground := Ground.data }, { on := 33, ground := Ground.guard }], guard := some (33, false) }, { dst := some 43, op := Op.fieldAddr 33 (Operand.tmp 3) 6, type := 0, pos := "ref.go:56", after := #[{ on := 33, ground := Ground.guard }], guard := some (33, false) }, { dst := some 44, op := Op.load 22 (Operand.tmp 43), type := 22, pos := "ref.go:56", after := #[{ on := 36, ground := Ground.data }, { on := 33, ground := Ground.guard }], guard := some (33, false) }, { dst := some 45, op := Op.binOp BinOp.neq 22 (Operand.tmp 42) (Operand.tmp 44) 22, type := 4, pos := "ref.go:56", after := #[{ on := 35, ground := Ground.data }, { on := 37, ground := Ground.data }, { on := 33, ground := Ground.guard }], guard := some (33, false) }, { dst := some 46, op := Op.pick (Operand.tmp 40) (Operand.const (Value.bool true)) (Operand.tmp 45), type := 4, pos := "ref.go:56", after := #[{ on := 33, ground := Ground.data }, { on := 38, ground := Ground.data }], guard := none }, { dst := some 47, op := Op.move (Operand.tmp 46), type := 4, pos := "ref.go:56", after := #[{ on := 39, ground := Ground.data }, { on := 33, ground := Ground.chain }], guard := none }, { dst := some 48, op := Op.fieldAddr 33 (Operand.tmp 2) 7, type := 0, pos := "ref.go:56", after := #[{ on := 40, ground := Ground.guard }], guard := some (40, false) }, { dst := some 49, op := Op.load 4 (Operand.tmp 48), type := 4, pos := "ref.go:56", after := #[{ on := 41, ground := Ground.data }, { on := 40, ground := Ground.guard }], guard := some (40, false) }, { dst := some 50, op := Op.fieldAddr 33 (Operand.tmp 3) 7, type := 0, pos := "ref.go:56", after := #[{ on := 40, ground := Ground.guard }], guard := some (40, false) }, { dst := some 51, op := Op.load 4 (Operand.tmp 50), type := 4, pos := "ref.go:56", after := #[{ on := 43, ground := Ground.data }, { on := 40, ground := Ground.guard }], guard := some (40, false) }, { dst := some 52, op := Op.binOp BinOp.neq 4 (Operand.tmp 49) (Operand.tmp 51) 4, type := 4, pos := "ref.go:56", after := #[{ on := 42, ground := Ground.data }, { on := 44, ground := Ground.data }, { on := 40, ground := Ground.guard }], guard := some (40, false) }, { dst := some 53, op := Op.pick (Operand.tmp 47) (Operand.const (Value.bool true)) (Operand.tmp 52), type := 4, pos := "ref.go:56", after := #[{ on := 40, ground := Ground.data }, { on := 45, ground := Ground.data }], guard := none }, { dst := some 54, op := Op.move (Operand.tmp 53), type := 4, pos := "ref.go:56", after := #[{ on := 46, ground := Ground.data }, { on := 40, ground := Ground.chain }], guard := none }, { dst := some 55, op := Op.fieldAddr 33 (Operand.tmp 2) 8, type := 0, pos := "ref.go:56", after := #[{ on := 47, ground := Ground.guard }], guard := some (47, false) }, { dst := some 56, op := Op.load 22 (Operand.tmp 55), type := 22, pos := "ref.go:56", after := #[{ on := 48, ground := Ground.data }, { on := 47, ground := Ground.guard }], guard := some (47, false) }, { dst := some 57, op := Op.fieldAddr 33 (Operand.tmp 3) 8, type := 0, pos := "ref.go:56", after := #[{ on := 47, ground := Ground.guard }], guard := some (47, false) }, { dst := some 58, op := Op.load 22 (Operand.tmp 57), type := 22, pos := "ref.go:56", after := #[{ on := 50, ground := Ground.data }, { on := 47, ground := Ground.guard }], guard := some (47, false) }, { dst := some 59, op := Op.binOp BinOp.neq 22 (Operand.tmp 56) (Operand.tmp 58) 22, type := 4, pos := "ref.go:56", after := #[{ on := 49, ground := Ground.data }, { on := 51, ground := Ground.data }, { on := 47, ground := Ground.guard }], guard := some (47, false) }, { dst := some 60, op := Op.pick (Operand.tmp 54) (Operand.const (Value.bool true)) (Operand.tmp 59), type := 4, pos := "ref.go:56", after := #[{ on := 47, ground := Ground.data }, { on := 52, ground := Ground.data }], guard := none }, { dst := some 61, op := Op.move (Operand.tmp 60), type := 4, pos := "ref.go:56", after := #[{ on := 53, ground := Ground.data }, { on := 47, ground := Ground.chain }], guard := none }, { dst := some 62, op := Op.fieldAddr 33 (Operand.tmp 2) 9, type := 0, pos := "ref.go:56", after := #[{ on := 54, ground := Ground.guard }], guard := some (54, false) }, { dst := some 63, op := Op.load 22 (Operand.tmp 62), type := 22, pos := "ref.go:56", after := #[{ on := 55, ground := Ground.data }, { on := 54, ground := Ground.guard }], guard := some (54, false) }, { dst := some 64, op := Op.fieldAddr 33 (Operand.tmp 3) 9, type := 0, pos := "ref.go:56", after := #[{ on := 54, ground := Ground.guard }], guard := some (54, false) }, { dst := some 65, op := Op.load 22 (Operand.tmp 64), type := 22, pos := "ref.go:56", after := #[{ on := 57, ground := Ground.data }, { on := 54, ground := Ground.guard }], guard := some (54, false) }, { dst := some 66, op := Op.binOp BinOp.neq 22 (Operand.tmp 63) (Operand.tmp 65) 22, type := 4, pos := "ref.go:56", after := #[{ on := 56, ground := Ground.data }, { on := 58, ground := Ground.data }, { on := 54, ground := Ground.guard }], guard := some (54, false) }, { dst := some 67, op := Op.pick (Operand.tmp 61) (Operand.const (Value.bool true)) (Operand.tmp 66), type := 4, pos := "ref.go:56", after := #[{ on := 54, ground := Ground.data }, { on := 59, ground := Ground.data }], guard := none }, { dst := some 68, op := Op.move (Operand.tmp 67), type := 4, pos := "ref.go:56", after := #[{ on := 60, ground := Ground.data }, { on := 54, ground := Ground.chain }], guard := none }, { dst := some 69, op := Op.fieldAddr 33 (Operand.tmp 2) 13, type := 0, pos := "ref.go:56", after := #[{ on := 61, ground := Ground.guard }], guard := some (61, false) }, { dst := some 70, op := Op.load 4 (Operand.tmp 69), type := 4, pos := "ref.go:56", after := #[{ on := 62, ground := Ground.data }, { on := 61, ground := Ground.guard }], guard := some (61, false) }, { dst := some 71, op := Op.fieldAddr 33 (Operand.tmp 3) 13, type := 0, pos := "ref.go:56", after := #[{ on := 61, ground := Ground.guard }], guard := some (61, false) }, { dst := some 72, op := Op.load 4 (Operand.tmp 71), type := 4, pos := "ref.go:56", after := #[{ on := 64, ground := Ground.data }, { on := 61, ground := Ground.guard }], guard := some (61, false) }, { dst := some 73, op := Op.binOp BinOp.neq 4 (Operand.tmp 70) (Operand.tmp 72) 4, type := 4, pos := "ref.go:56", after := #[{ on := 63, ground := Ground.data }, { on := 65, ground := Ground.data }, { on := 61, ground := Ground.guard }], guard := some (61, false) }, { dst := some 74, op := Op.pick (Operand.tmp 68) (Operand.const (Value.bool true)) (Operand.tmp 73), type := 4, pos := "ref.go:56", after := #[{ on := 61, ground := Ground.data }, { on := 66, ground := Ground.data }], guard := none }, { dst := some 75, op := Op.move (Operand.tmp 74), type := 4, pos := "ref.go:56", after := #[{ on := 67, ground := Ground.data }, { on := 61, ground := Ground.chain }], guard := none }, { dst := some 76, op := Op.fieldAddr 33 (Operand.tmp 2) 14, type := 0, pos := "ref.go:56", after := #[{ on := 68, ground := Ground.guard }], guard := some (68, false) }, { dst := some 77, op := Op.load 22 (Operand.tmp 76), type := 22, pos := "ref.go:56", after := #[{ on := 69, ground := Ground.data }, { on := 68, ground := Ground.guard }], guard := some (68, false) }, { dst := some 78, op := Op.fieldAddr 33 (Operand.tmp 3) 14, type := 0, pos := "ref.go:56", after := #[{ on := 68, ground := Ground.guard }], guard := some (68, false) }, { dst := some 79, op := Op.load 22 (Operand.tmp 78), type := 22, pos := "ref.go:56", after := #[{ on := 71, ground := Ground.data }, { on := 68, ground := Ground.guard }], guard := some (68, false) }, { dst := some 80, op := Op.binOp BinOp.neq 22 (Operand.tmp 77) (Operand.tmp 79) 22, type := 4, pos := "ref.go:56", after := #[{ on := 70, ground := Ground.data }, { on := 72, ground := Ground.data }, { on := 68, ground := Ground.guard }], guard := some (68, false) }, { dst := some 81, op := Op.pick (Operand.tmp 75) (Operand.const (Value.bool true)) (Operand.tmp 80), type := 4, pos := "ref.go:56", after := #[{ on := 68, ground := Ground.data }, { on := 73, ground := Ground.data }], guard := none }] (by kernel_rfl) ?_
  by_cases q : a.origin = b.origin
  case neg =>
    have HF : Hid (r = false) := by show _ = _; rw [← HR.out]; exact decide_eq_false (fun e => q (by have := (AtC.eq_iff.2 e).1; exact this))
    clear HQp HQm HQk HR hlt hld HC0 HD0 HOA0 HOB0 gx1 gx2 gx3 gx4 gl1 gl2 gl3 gl4
    have q0 : (a.origin == b.origin) = false := beq_eq_false_iff_ne.2 q
    have n0 : (a.origin != b.origin) = true := by rw [bne, q0]; rfl
    clear q
    as_aux_lemma =>
      go_wp2_with (with_reducible show wpList _ _ _ (⟨some 13, _, _, _, _, _⟩ :: _) _ _; refine wpList_pure (a' := { tmps := #[.agg a.ar, .agg b.ar, .pointer (some ⟨w.heap.size, 0, none⟩), .pointer (some ⟨w.heap.size + 1, 0, none⟩), .bool false, undef, undef, .pointer (some ⟨w.heap.size, 0, none⟩), .int .i64 a.origin, .pointer (some ⟨w.heap.size + 1, 0, none⟩), .int .i64 b.origin, .bool true, .bool true, undef, undef, undef, undef, undef, .bool true, .bool true, undef, undef, undef, undef, undef, .bool true, .bool true, undef, undef, undef, undef, undef, .bool true, .bool true, undef, undef, undef, undef, undef, .bool true, .bool true, undef, undef, undef, undef, undef, .bool true, .bool true, undef, undef, undef, undef, undef, .bool true, .bool true, undef, undef, undef, undef, undef, .bool true, .bool true, undef, undef, undef, undef, undef, .bool true, .bool true, undef, undef, undef, undef, undef, .bool true, .bool true, undef, undef, undef, undef, undef, .bool true, undef, undef, undef, undef, undef, undef, undef, undef, undef, undef, undef, undef, undef, undef, undef, undef, undef, undef, undef, undef, undef, undef, undef, undef, undef, undef, undef, undef, undef, undef, undef, undef, undef, undef, undef, undef, undef, undef, undef, undef, undef, undef, undef, undef, undef, undef, undef, undef, undef, undef, undef, undef, undef, undef, undef, undef, undef, undef, undef, undef, undef, undef, undef, undef, undef, undef, undef, undef, undef, undef, undef, undef, undef, undef, undef, undef], defers := [] }) (by as_aux_lemma => kernel_rfl) ?_)
      go_ret
      exact ⟨by rw [HF.out]; rfl, HB0.out⟩
  have q0 : (a.origin == b.origin) = true := beq_iff_eq.2 q
  have n0 : (a.origin != b.origin) = false := by simp [q]
  have E0 := Lib.hid q
  clear q
  go_wp2_with (with_reducible show wpList _ _ _ (⟨some 13, _, _, _, _, _⟩ :: _) _ _; refine StopB ?_)
  refine StopA ?_
  by_cases q : a.next = b.next
  case neg =>
    have HF : Hid (r = false) := by show _ = _; rw [← HR.out]; exact decide_eq_false (fun e => q (by have := (AtC.eq_iff.2 e).2.1; exact this))
    clear HQp HQm HQk HR hlt hld HC0 HD0 HOA0 HOB0 gx1 gx2 gx3 gx4 gl1 gl2 gl3 gl4
    have q1 : (a.next.toList == b.next.toList) = false := Bool.eq_false_iff.2 (fun e => q (bytes_eq.1 e))
    have n1 : (a.next.toList != b.next.toList) = true := by rw [bne, q1]; rfl
    clear q
    as_aux_lemma =>
      go_wp2_with (with_reducible show wpList _ _ _ (⟨some 21, _, _, _, _, _⟩ :: _) _ _; refine wpList_pure (a' := { tmps := #[.agg a.ar, .agg b.ar, .pointer (some ⟨w.heap.size, 0, none⟩), .pointer (some ⟨w.heap.size + 1, 0, none⟩), .bool false, undef, undef, .pointer (some ⟨w.heap.size, 0, none⟩), .int .i64 a.origin, .pointer (some ⟨w.heap.size + 1, 0, none⟩), .int .i64 b.origin, .bool false, .bool false, .pointer (some ⟨w.heap.size, 2, none⟩), .string a.next, .pointer (some ⟨w.heap.size + 1, 2, none⟩), .string b.next, .bool true, .bool true, .bool true, undef, undef, undef, undef, undef, .bool true, .bool true, undef, undef, undef, undef, undef, .bool true, .bool true, undef, undef, undef, undef, undef, .bool true, .bool true, undef, undef, undef, undef, undef, .bool true, .bool true, undef, undef, undef, undef, undef, .bool true, .bool true, undef, undef, undef, undef, undef, .bool true, .bool true, undef, undef, undef, undef, undef, .bool true, .bool true, undef, undef, undef, undef, undef, .bool true, .bool true, undef, undef, undef, undef, undef, .bool true, undef, undef, undef, undef, undef, undef, undef, undef, undef, undef, undef, undef, undef, undef, undef, undef, undef, undef, undef, undef, undef, undef, undef, undef, undef, undef, undef, undef, undef, undef, undef, undef, undef, undef, undef, undef, undef, undef, undef, undef, undef, undef, undef, undef, undef, undef, undef, undef, undef, undef, undef, undef, undef, undef, undef, undef, undef, undef, undef, undef, undef, undef, undef, undef, undef, undef, undef, undef, undef, undef, undef, undef, undef, undef, undef, undef], defers := [] }) (by as_aux_lemma => kernel_rfl) ?_)
      go_ret
      exact ⟨by rw [HF.out]; rfl, HB0.out⟩
  have q1 : (a.next.toList == b.next.toList) = true := bytes_eq.2 q
  have n1 : (a.next.toList != b.next.toList) = false := by rw [q]; simp
  have E1 := Lib.hid q
  clear q
  go_wp2_with (with_reducible show wpList _ _ _ (⟨some 20, _, _, _, _, _⟩ :: _) _ _; refine StopB ?_)
  refine StopA ?_
  by_cases q : a.hasMed = b.hasMed
  case neg =>
    have HF : Hid (r = false) := by show _ = _; rw [← HR.out]; exact decide_eq_false (fun e => q (by have := (AtC.eq_iff.2 e).2.2.1; exact this))
    clear HQp HQm HQk HR hlt hld HC0 HD0 HOA0 HOB0 gx1 gx2 gx3 gx4 gl1 gl2 gl3 gl4
    have q2 : (a.hasMed == b.hasMed) = false := beq_eq_false_iff_ne.2 q
    have n2 : (a.hasMed != b.hasMed) = true := by rw [bne, q2]; rfl
    clear q
    as_aux_lemma =>
      go_wp2_with (with_reducible show wpList _ _ _ (⟨some 28, _, _, _, _, _⟩ :: _) _ _; refine wpList_pure (a' := { tmps := #[.agg a.ar, .agg b.ar, .pointer (some ⟨w.heap.size, 0, none⟩), .pointer (some ⟨w.heap.size + 1, 0, none⟩), .bool false, undef, undef, .pointer (some ⟨w.heap.size, 0, none⟩), .int .i64 a.origin, .pointer (some ⟨w.heap.size + 1, 0, none⟩), .int .i64 b.origin, .bool false, .bool false, .pointer (some ⟨w.heap.size, 2, none⟩), .string a.next, .pointer (some ⟨w.heap.size + 1, 2, none⟩), .string b.next, .bool false, .bool false, .bool false, .pointer (some ⟨w.heap.size, 3, none⟩), .bool a.hasMed, .pointer (some ⟨w.heap.size + 1, 3, none⟩), .bool b.hasMed, .bool true, .bool true, .bool true, undef, undef, undef, undef, undef, .bool true, .bool true, undef, undef, undef, undef, undef, .bool true, .bool true, undef, undef, undef, undef, undef, .bool true, .bool true, undef, undef, undef, undef, undef, .bool true, .bool true, undef, undef, undef, undef, undef, .bool true, .bool true, undef, undef, undef, undef, undef, .bool true, .bool true, undef, undef, undef, undef, undef, .bool true, .bool true, undef, undef, undef, undef, undef, .bool true, undef, undef, undef, undef, undef, undef, undef, undef, undef, undef, undef, undef, undef, undef, undef, undef, undef, undef, undef, undef, undef, undef, undef, undef, undef, undef, undef, undef, undef, undef, undef, undef, undef, undef, undef, undef, undef, undef, undef, undef, undef, undef, undef, undef, undef, undef, undef, undef, undef, undef, undef, undef, undef, undef, undef, undef, undef, undef, undef, undef, undef, undef, undef, undef, undef, undef, undef, undef, undef, undef, undef, undef, undef, undef, undef, undef], defers := [] }) (by as_aux_lemma => kernel_rfl) ?_)
      go_ret
      exact ⟨by rw [HF.out]; rfl, HB0.out⟩
  have q2 : (a.hasMed == b.hasMed) = true := beq_iff_eq.2 q
  have n2 : (a.hasMed != b.hasMed) = false := by simp [q]
  have E2 := Lib.hid q
  clear q
  go_wp2_with (with_reducible show wpList _ _ _ (⟨some 27, _, _, _, _, _⟩ :: _) _ _; refine StopB ?_)
  refine StopA ?_
  by_cases q : a.med = b.med
  case neg =>
    have HF : Hid (r = false) := by show _ = _; rw [← HR.out]; exact decide_eq_false (fun e => q (by have := (AtC.eq_iff.2 e).2.2.2.1; exact this))
    clear HQp HQm HQk HR hlt hld HC0 HD0 HOA0 HOB0 gx1 gx2 gx3 gx4 gl1 gl2 gl3 gl4
    have q3 : ((a.med : Int) == (b.med : Int)) = false := beq_eq_false_iff_ne.2 (by omega)
    have n3 : ((a.med : Int) != (b.med : Int)) = true := by rw [bne, q3]; rfl
    clear q
    as_aux_lemma =>
      go_wp2_with (with_reducible show wpList _ _ _ (⟨some 35, _, _, _, _, _⟩ :: _) _ _; refine wpList_pure (a' := { tmps := #[.agg a.ar, .agg b.ar, .pointer (some ⟨w.heap.size, 0, none⟩), .pointer (some ⟨w.heap.size + 1, 0, none⟩), .bool false, undef, undef, .pointer (some ⟨w.heap.size, 0, none⟩), .int .i64 a.origin, .pointer (some ⟨w.heap.size + 1, 0, none⟩), .int .i64 b.origin, .bool false, .bool false, .pointer (some ⟨w.heap.size, 2, none⟩), .string a.next, .pointer (some ⟨w.heap.size + 1, 2, none⟩), .string b.next, .bool false, .bool false, .bool false, .pointer (some ⟨w.heap.size, 3, none⟩), .bool a.hasMed, .pointer (some ⟨w.heap.size + 1, 3, none⟩), .bool b.hasMed, .bool false, .bool false, .bool false, .pointer (some ⟨w.heap.size, 4, none⟩), .int .u32 (a.med : Nat), .pointer (some ⟨w.heap.size + 1, 4, none⟩), .int .u32 (b.med : Nat), .bool true, .bool true, .bool true, undef, undef, undef, undef, undef, .bool true, .bool true, undef, undef, undef, undef, undef, .bool true, .bool true, undef, undef, undef, undef, undef, .bool true, .bool true, undef, undef, undef, undef, undef, .bool true, .bool true, undef, undef, undef, undef, undef, .bool true, .bool true, undef, undef, undef, undef, undef, .bool true, .bool true, undef, undef, undef, undef, undef, .bool true, undef, undef, undef, undef, undef, undef, undef, undef, undef, undef, undef, undef, undef, undef, undef, undef, undef, undef, undef, undef, undef, undef, undef, undef, undef, undef, undef, undef, undef, undef, undef, undef, undef, undef, undef, undef, undef, undef, undef, undef, undef, undef, undef, undef, undef, undef, undef, undef, undef, undef, undef, undef, undef, undef, undef, undef, undef, undef, undef, undef, undef, undef, undef, undef, undef, undef, undef, undef, undef, undef, undef, undef, undef, undef, undef, undef], defers := [] }) (by as_aux_lemma => kernel_rfl) ?_)
      go_ret
      exact ⟨by rw [HF.out]; rfl, HB0.out⟩
  have q3 : ((a.med : Int) == (b.med : Int)) = true := by rw [q]; simp
  have n3 : ((a.med : Int) != (b.med : Int)) = false := by rw [q]; simp
  have E3 := Lib.hid q
  clear q
  go_wp2_with (with_reducible show wpList _ _ _ (⟨some 34, _, _, _, _, _⟩ :: _) _ _; refine StopB ?_)
  refine StopA ?_
  by_cases q : a.hasPref = b.hasPref
  case neg =>
    have HF : Hid (r = false) := by show _ = _; rw [← HR.out]; exact decide_eq_false (fun e => q (by have := (AtC.eq_iff.2 e).2.2.2.2.1; exact this))
    clear HQp HQm HQk HR hlt hld HC0 HD0 HOA0 HOB0 gx1 gx2 gx3 gx4 gl1 gl2 gl3 gl4
    have q4 : (a.hasPref == b.hasPref) = false := beq_eq_false_iff_ne.2 q
    have n4 : (a.hasPref != b.hasPref) = true := by rw [bne, q4]; rfl
    clear q
    as_aux_lemma =>
      go_wp2_with (with_reducible show wpList _ _ _ (⟨some 42, _, _, _, _, _⟩ :: _) _ _; refine wpList_pure (a' := { tmps := #[.agg a.ar, .agg b.ar, .pointer (some ⟨w.heap.size, 0, none⟩), .pointer (some ⟨w.heap.size + 1, 0, none⟩), .bool false, undef, undef, .pointer (some ⟨w.heap.size, 0, none⟩), .int .i64 a.origin, .pointer (some ⟨w.heap.size + 1, 0, none⟩), .int .i64 b.origin, .bool false, .bool false, .pointer (some ⟨w.heap.size, 2, none⟩), .string a.next, .pointer (some ⟨w.heap.size + 1, 2, none⟩), .string b.next, .bool false, .bool false, .bool false, .pointer (some ⟨w.heap.size, 3, none⟩), .bool a.hasMed, .pointer (some ⟨w.heap.size + 1, 3, none⟩), .bool b.hasMed, .bool false, .bool false, .bool false, .pointer (some ⟨w.heap.size, 4, none⟩), .int .u32 (a.med : Nat), .pointer (some ⟨w.heap.size + 1, 4, none⟩), .int .u32 (b.med : Nat), .bool false, .bool false, .bool false, .pointer (some ⟨w.heap.size, 5, none⟩), .bool a.hasPref, .pointer (some ⟨w.heap.size + 1, 5, none⟩), .bool b.hasPref, .bool true, .bool true, .bool true, undef, undef, undef, undef, undef, .bool true, .bool true, undef, undef, undef, undef, undef, .bool true, .bool true, undef, undef, undef, undef, undef, .bool true, .bool true, undef, undef, undef, undef, undef, .bool true, .bool true, undef, undef, undef, undef, undef, .bool true, .bool true, undef, undef, undef, undef, undef, .bool true, undef, undef, undef, undef, undef, undef, undef, undef, undef, undef, undef, undef, undef, undef, undef, undef, undef, undef, undef, undef, undef, undef, undef, undef, undef, undef, undef, undef, undef, undef, undef, undef, undef, undef, undef, undef, undef, undef, undef, undef, undef, undef, undef, undef, undef, undef, undef, undef, undef, undef, undef, undef, undef, undef, undef, undef, undef, undef, undef, undef, undef, undef, undef, undef, undef, undef, undef, undef, undef, undef, undef, undef, undef, undef, undef, undef], defers := [] }) (by as_aux_lemma => kernel_rfl) ?_)
      go_ret
      exact ⟨by rw [HF.out]; rfl, HB0.out⟩
  have q4 : (a.hasPref == b.hasPref) = true := beq_iff_eq.2 q
  have n4 : (a.hasPref != b.hasPref) = false := by simp [q]
  have E4 := Lib.hid q
  clear q
  go_wp2_with (with_reducible show wpList _ _ _ (⟨some 41, _, _, _, _, _⟩ :: _) _ _; refine StopB ?_)
  refine StopA ?_
  by_cases q : a.pref = b.pref
  case neg =>
    have HF : Hid (r = false) := by show _ = _; rw [← HR.out]; exact decide_eq_false (fun e => q (by have := (AtC.eq_iff.2 e).2.2.2.2.2.1; exact this))
    clear HQp HQm HQk HR hlt hld HC0 HD0 HOA0 HOB0 gx1 gx2 gx3 gx4 gl1 gl2 gl3 gl4
    have q5 : ((a.pref : Int) == (b.pref : Int)) = false := beq_eq_false_iff_ne.2 (by omega)
    have n5 : ((a.pref : Int) != (b.pref : Int)) = true := by rw [bne, q5]; rfl
    clear q
    as_aux_lemma =>
      go_wp2_with (with_reducible show wpList _ _ _ (⟨some 49, _, _, _, _, _⟩ :: _) _ _; refine wpList_pure (a' := { tmps := #[.agg a.ar, .agg b.ar, .pointer (some ⟨w.heap.size, 0, none⟩), .pointer (some ⟨w.heap.size + 1, 0, none⟩), .bool false, undef, undef, .pointer (some ⟨w.heap.size, 0, none⟩), .int .i64 a.origin, .pointer (some ⟨w.heap.size + 1, 0, none⟩), .int .i64 b.origin, .bool false, .bool false, .pointer (some ⟨w.heap.size, 2, none⟩), .string a.next, .pointer (some ⟨w.heap.size + 1, 2, none⟩), .string b.next, .bool false, .bool false, .bool false, .pointer (some ⟨w.heap.size, 3, none⟩), .bool a.hasMed, .pointer (some ⟨w.heap.size + 1, 3, none⟩), .bool b.hasMed, .bool false, .bool false, .bool false, .pointer (some ⟨w.heap.size, 4, none⟩), .int .u32 (a.med : Nat), .pointer (some ⟨w.heap.size + 1, 4, none⟩), .int .u32 (b.med : Nat), .bool false, .bool false, .bool false, .pointer (some ⟨w.heap.size, 5, none⟩), .bool a.hasPref, .pointer (some ⟨w.heap.size + 1, 5, none⟩), .bool b.hasPref, .bool false, .bool false, .bool false, .pointer (some ⟨w.heap.size, 6, none⟩), .int .u32 (a.pref : Nat), .pointer (some ⟨w.heap.size + 1, 6, none⟩), .int .u32 (b.pref : Nat), .bool true, .bool true, .bool true, undef, undef, undef, undef, undef, .bool true, .bool true, undef, undef, undef, undef, undef, .bool true, .bool true, undef, undef, undef, undef, undef, .bool true, .bool true, undef, undef, undef, undef, undef, .bool true, .bool true, undef, undef, undef, undef, undef, .bool true, undef, undef, undef, undef, undef, undef, undef, undef, undef, undef, undef, undef, undef, undef, undef, undef, undef, undef, undef, undef, undef, undef, undef, undef, undef, undef, undef, undef, undef, undef, undef, undef, undef, undef, undef, undef, undef, undef, undef, undef, undef, undef, undef, undef, undef, undef, undef, undef, undef, undef, undef, undef, undef, undef, undef, undef, undef, undef, undef, undef, undef, undef, undef, undef, undef, undef, undef, undef, undef, undef, undef, undef, undef, undef, undef, undef], defers := [] }) (by as_aux_lemma => kernel_rfl) ?_)
      go_ret
      exact ⟨by rw [HF.out]; rfl, HB0.out⟩
  have q5 : ((a.pref : Int) == (b.pref : Int)) = true := by rw [q]; simp
  have n5 : ((a.pref : Int) != (b.pref : Int)) = false := by rw [q]; simp
  have E5 := Lib.hid q
  clear q
  go_wp2_with (with_reducible show wpList _ _ _ (⟨some 48, _, _, _, _, _⟩ :: _) _ _; refine StopB ?_)
  refine StopA ?_
  by_cases q : a.atomic = b.atomic
  case neg =>
    have HF : Hid (r = false) := by show _ = _; rw [← HR.out]; exact decide_eq_false (fun e => q (by have := (AtC.eq_iff.2 e).2.2.2.2.2.2.1; exact this))
    clear HQp HQm HQk HR hlt hld HC0 HD0 HOA0 HOB0 gx1 gx2 gx3 gx4 gl1 gl2 gl3 gl4
    have q6 : (a.atomic == b.atomic) = false := beq_eq_false_iff_ne.2 q
    have n6 : (a.atomic != b.atomic) = true := by rw [bne, q6]; rfl
    clear q
    as_aux_lemma =>
      go_wp2_with (with_reducible show wpList _ _ _ (⟨some 56, _, _, _, _, _⟩ :: _) _ _; refine wpList_pure (a' := { tmps := #[.agg a.ar, .agg b.ar, .pointer (some ⟨w.heap.size, 0, none⟩), .pointer (some ⟨w.heap.size + 1, 0, none⟩), .bool false, undef, undef, .pointer (some ⟨w.heap.size, 0, none⟩), .int .i64 a.origin, .pointer (some ⟨w.heap.size + 1, 0, none⟩), .int .i64 b.origin, .bool false, .bool false, .pointer (some ⟨w.heap.size, 2, none⟩), .string a.next, .pointer (some ⟨w.heap.size + 1, 2, none⟩), .string b.next, .bool false, .bool false, .bool false, .pointer (some ⟨w.heap.size, 3, none⟩), .bool a.hasMed, .pointer (some ⟨w.heap.size + 1, 3, none⟩), .bool b.hasMed, .bool false, .bool false, .bool false, .pointer (some ⟨w.heap.size, 4, none⟩), .int .u32 (a.med : Nat), .pointer (some ⟨w.heap.size + 1, 4, none⟩), .int .u32 (b.med : Nat), .bool false, .bool false, .bool false, .pointer (some ⟨w.heap.size, 5, none⟩), .bool a.hasPref, .pointer (some ⟨w.heap.size + 1, 5, none⟩), .bool b.hasPref, .bool false, .bool false, .bool false, .pointer (some ⟨w.heap.size, 6, none⟩), .int .u32 (a.pref : Nat), .pointer (some ⟨w.heap.size + 1, 6, none⟩), .int .u32 (b.pref : Nat), .bool false, .bool false, .bool false, .pointer (some ⟨w.heap.size, 7, none⟩), .bool a.atomic, .pointer (some ⟨w.heap.size + 1, 7, none⟩), .bool b.atomic, .bool true, .bool true, .bool true, undef, undef, undef, undef, undef, .bool true, .bool true, undef, undef, undef, undef, undef, .bool true, .bool true, undef, undef, undef, undef, undef, .bool true, .bool true, undef, undef, undef, undef, undef, .bool true, undef, undef, undef, undef, undef, undef, undef, undef, undef, undef, undef, undef, undef, undef, undef, undef, undef, undef, undef, undef, undef, undef, undef, undef, undef, undef, undef, undef, undef, undef, undef, undef, undef, undef, undef, undef, undef, undef, undef, undef, undef, undef, undef, undef, undef, undef, undef, undef, undef, undef, undef, undef, undef, undef, undef, undef, undef, undef, undef, undef, undef, undef, undef, undef, undef, undef, undef, undef, undef, undef, undef, undef, undef, undef, undef, undef], defers := [] }) (by as_aux_lemma => kernel_rfl) ?_)
      go_ret
      exact ⟨by rw [HF.out]; rfl, HB0.out⟩
  have q6 : (a.atomic == b.atomic) = true := beq_iff_eq.2 q
  have n6 : (a.atomic != b.atomic) = false := by simp [q]
  have E6 := Lib.hid q
  clear q
  go_wp2_with (with_reducible show wpList _ _ _ (⟨some 55, _, _, _, _, _⟩ :: _) _ _; refine StopB ?_)
  refine StopA ?_
  by_cases q : a.aggAs = b.aggAs
  case neg =>
    have HF : Hid (r = false) := by show _ = _; rw [← HR.out]; exact decide_eq_false (fun e => q (by have := (AtC.eq_iff.2 e).2.2.2.2.2.2.2.1; exact this))
    clear HQp HQm HQk HR hlt hld HC0 HD0 HOA0 HOB0 gx1 gx2 gx3 gx4 gl1 gl2 gl3 gl4
    have q7 : ((a.aggAs : Int) == (b.aggAs : Int)) = false := beq_eq_false_iff_ne.2 (by omega)
    have n7 : ((a.aggAs : Int) != (b.aggAs : Int)) = true := by rw [bne, q7]; rfl
    clear q
    as_aux_lemma =>
      go_wp2_with (with_reducible show wpList _ _ _ (⟨some 63, _, _, _, _, _⟩ :: _) _ _; refine wpList_pure (a' := { tmps := #[.agg a.ar, .agg b.ar, .pointer (some ⟨w.heap.size, 0, none⟩), .pointer (some ⟨w.heap.size + 1, 0, none⟩), .bool false, undef, undef, .pointer (some ⟨w.heap.size, 0, none⟩), .int .i64 a.origin, .pointer (some ⟨w.heap.size + 1, 0, none⟩), .int .i64 b.origin, .bool false, .bool false, .pointer (some ⟨w.heap.size, 2, none⟩), .string a.next, .pointer (some ⟨w.heap.size + 1, 2, none⟩), .string b.next, .bool false, .bool false, .bool false, .pointer (some ⟨w.heap.size, 3, none⟩), .bool a.hasMed, .pointer (some ⟨w.heap.size + 1, 3, none⟩), .bool b.hasMed, .bool false, .bool false, .bool false, .pointer (some ⟨w.heap.size, 4, none⟩), .int .u32 (a.med : Nat), .pointer (some ⟨w.heap.size + 1, 4, none⟩), .int .u32 (b.med : Nat), .bool false, .bool false, .bool false, .pointer (some ⟨w.heap.size, 5, none⟩), .bool a.hasPref, .pointer (some ⟨w.heap.size + 1, 5, none⟩), .bool b.hasPref, .bool false, .bool false, .bool false, .pointer (some ⟨w.heap.size, 6, none⟩), .int .u32 (a.pref : Nat), .pointer (some ⟨w.heap.size + 1, 6, none⟩), .int .u32 (b.pref : Nat), .bool false, .bool false, .bool false, .pointer (some ⟨w.heap.size, 7, none⟩), .bool a.atomic, .pointer (some ⟨w.heap.size + 1, 7, none⟩), .bool b.atomic, .bool false, .bool false, .bool false, .pointer (some ⟨w.heap.size, 8, none⟩), .int .u32 (a.aggAs : Nat), .pointer (some ⟨w.heap.size + 1, 8, none⟩), .int .u32 (b.aggAs : Nat), .bool true, .bool true, .bool true, undef, undef, undef, undef, undef, .bool true, .bool true, undef, undef, undef, undef, undef, .bool true, .bool true, undef, undef, undef, undef, undef, .bool true, undef, undef, undef, undef, undef, undef, undef, undef, undef, undef, undef, undef, undef, undef, undef, undef, undef, undef, undef, undef, undef, undef, undef, undef, undef, undef, undef, undef, undef, undef, undef, undef, undef, undef, undef, undef, undef, undef, undef, undef, undef, undef, undef, undef, undef, undef, undef, undef, undef, undef, undef, undef, undef, undef, undef, undef, undef, undef, undef, undef, undef, undef, undef, undef, undef, undef, undef, undef, undef, undef, undef, undef, undef, undef, undef, undef], defers := [] }) (by as_aux_lemma => kernel_rfl) ?_)
      go_ret
      exact ⟨by rw [HF.out]; rfl, HB0.out⟩
  have q7 : ((a.aggAs : Int) == (b.aggAs : Int)) = true := by rw [q]; simp
  have n7 : ((a.aggAs : Int) != (b.aggAs : Int)) = false := by rw [q]; simp
  have E7 := Lib.hid q
  clear q
  go_wp2_with (with_reducible show wpList _ _ _ (⟨some 62, _, _, _, _, _⟩ :: _) _ _; refine StopB ?_)
  refine StopA ?_
  by_cases q : a.aggId = b.aggId
  case neg =>
    have HF : Hid (r = false) := by show _ = _; rw [← HR.out]; exact decide_eq_false (fun e => q (by have := (AtC.eq_iff.2 e).2.2.2.2.2.2.2.2.1; exact this))
    clear HQp HQm HQk HR hlt hld HC0 HD0 HOA0 HOB0 gx1 gx2 gx3 gx4 gl1 gl2 gl3 gl4
    have q8 : ((a.aggId : Int) == (b.aggId : Int)) = false := beq_eq_false_iff_ne.2 (by omega)
    have n8 : ((a.aggId : Int) != (b.aggId : Int)) = true := by rw [bne, q8]; rfl
    clear q
    as_aux_lemma =>
      go_wp2_with (with_reducible show wpList _ _ _ (⟨some 70, _, _, _, _, _⟩ :: _) _ _; refine wpList_pure (a' := { tmps := #[.agg a.ar, .agg b.ar, .pointer (some ⟨w.heap.size, 0, none⟩), .pointer (some ⟨w.heap.size + 1, 0, none⟩), .bool false, undef, undef, .pointer (some ⟨w.heap.size, 0, none⟩), .int .i64 a.origin, .pointer (some ⟨w.heap.size + 1, 0, none⟩), .int .i64 b.origin, .bool false, .bool false, .pointer (some ⟨w.heap.size, 2, none⟩), .string a.next, .pointer (some ⟨w.heap.size + 1, 2, none⟩), .string b.next, .bool false, .bool false, .bool false, .pointer (some ⟨w.heap.size, 3, none⟩), .bool a.hasMed, .pointer (some ⟨w.heap.size + 1, 3, none⟩), .bool b.hasMed, .bool false, .bool false, .bool false, .pointer (some ⟨w.heap.size, 4, none⟩), .int .u32 (a.med : Nat), .pointer (some ⟨w.heap.size + 1, 4, none⟩), .int .u32 (b.med : Nat), .bool false, .bool false, .bool false, .pointer (some ⟨w.heap.size, 5, none⟩), .bool a.hasPref, .pointer (some ⟨w.heap.size + 1, 5, none⟩), .bool b.hasPref, .bool false, .bool false, .bool false, .pointer (some ⟨w.heap.size, 6, none⟩), .int .u32 (a.pref : Nat), .pointer (some ⟨w.heap.size + 1, 6, none⟩), .int .u32 (b.pref : Nat), .bool false, .bool false, .bool false, .pointer (some ⟨w.heap.size, 7, none⟩), .bool a.atomic, .pointer (some ⟨w.heap.size + 1, 7, none⟩), .bool b.atomic, .bool false, .bool false, .bool false, .pointer (some ⟨w.heap.size, 8, none⟩), .int .u32 (a.aggAs : Nat), .pointer (some ⟨w.heap.size + 1, 8, none⟩), .int .u32 (b.aggAs : Nat), .bool false, .bool false, .bool false, .pointer (some ⟨w.heap.size, 9, none⟩), .int .u32 (a.aggId : Nat), .pointer (some ⟨w.heap.size + 1, 9, none⟩), .int .u32 (b.aggId : Nat), .bool true, .bool true, .bool true, undef, undef, undef, undef, undef, .bool true, .bool true, undef, undef, undef, undef, undef, .bool true, undef, undef, undef, undef, undef, undef, undef, undef, undef, undef, undef, undef, undef, undef, undef, undef, undef, undef, undef, undef, undef, undef, undef, undef, undef, undef, undef, undef, undef, undef, undef, undef, undef, undef, undef, undef, undef, undef, undef, undef, undef, undef, undef, undef, undef, undef, undef, undef, undef, undef, undef, undef, undef, undef, undef, undef, undef, undef, undef, undef, undef, undef, undef, undef, undef, undef, undef, undef, undef, undef, undef, undef, undef, undef, undef, undef], defers := [] }) (by as_aux_lemma => kernel_rfl) ?_)
      go_ret
      exact ⟨by rw [HF.out]; rfl, HB0.out⟩
  have q8 : ((a.aggId : Int) == (b.aggId : Int)) = true := by rw [q]; simp
  have n8 : ((a.aggId : Int) != (b.aggId : Int)) = false := by rw [q]; simp
  have E8 := Lib.hid q
  clear q
  go_wp2_with (with_reducible show wpList _ _ _ (⟨some 69, _, _, _, _, _⟩ :: _) _ _; refine StopB ?_)
  refine StopA ?_
  by_cases q : a.hasOrig = b.hasOrig
  case neg =>
    have HF : Hid (r = false) := by show _ = _; rw [← HR.out]; exact decide_eq_false (fun e => q (by have := (AtC.eq_iff.2 e).2.2.2.2.2.2.2.2.2.1; exact this))
    clear HQp HQm HQk HR hlt hld HC0 HD0 HOA0 HOB0 gx1 gx2 gx3 gx4 gl1 gl2 gl3 gl4
    have q9 : (a.hasOrig == b.hasOrig) = false := beq_eq_false_iff_ne.2 q
    have n9 : (a.hasOrig != b.hasOrig) = true := by rw [bne, q9]; rfl
    clear q
    as_aux_lemma =>
      go_wp2_with (with_reducible show wpList _ _ _ (⟨some 77, _, _, _, _, _⟩ :: _) _ _; refine wpList_pure (a' := { tmps := #[.agg a.ar, .agg b.ar, .pointer (some ⟨w.heap.size, 0, none⟩), .pointer (some ⟨w.heap.size + 1, 0, none⟩), .bool false, undef, undef, .pointer (some ⟨w.heap.size, 0, none⟩), .int .i64 a.origin, .pointer (some ⟨w.heap.size + 1, 0, none⟩), .int .i64 b.origin, .bool false, .bool false, .pointer (some ⟨w.heap.size, 2, none⟩), .string a.next, .pointer (some ⟨w.heap.size + 1, 2, none⟩), .string b.next, .bool false, .bool false, .bool false, .pointer (some ⟨w.heap.size, 3, none⟩), .bool a.hasMed, .pointer (some ⟨w.heap.size + 1, 3, none⟩), .bool b.hasMed, .bool false, .bool false, .bool false, .pointer (some ⟨w.heap.size, 4, none⟩), .int .u32 (a.med : Nat), .pointer (some ⟨w.heap.size + 1, 4, none⟩), .int .u32 (b.med : Nat), .bool false, .bool false, .bool false, .pointer (some ⟨w.heap.size, 5, none⟩), .bool a.hasPref, .pointer (some ⟨w.heap.size + 1, 5, none⟩), .bool b.hasPref, .bool false, .bool false, .bool false, .pointer (some ⟨w.heap.size, 6, none⟩), .int .u32 (a.pref : Nat), .pointer (some ⟨w.heap.size + 1, 6, none⟩), .int .u32 (b.pref : Nat), .bool false, .bool false, .bool false, .pointer (some ⟨w.heap.size, 7, none⟩), .bool a.atomic, .pointer (some ⟨w.heap.size + 1, 7, none⟩), .bool b.atomic, .bool false, .bool false, .bool false, .pointer (some ⟨w.heap.size, 8, none⟩), .int .u32 (a.aggAs : Nat), .pointer (some ⟨w.heap.size + 1, 8, none⟩), .int .u32 (b.aggAs : Nat), .bool false, .bool false, .bool false, .pointer (some ⟨w.heap.size, 9, none⟩), .int .u32 (a.aggId : Nat), .pointer (some ⟨w.heap.size + 1, 9, none⟩), .int .u32 (b.aggId : Nat), .bool false, .bool false, .bool false, .pointer (some ⟨w.heap.size, 13, none⟩), .bool a.hasOrig, .pointer (some ⟨w.heap.size + 1, 13, none⟩), .bool b.hasOrig, .bool true, .bool true, .bool true, undef, undef, undef, undef, undef, .bool true, undef, undef, undef, undef, undef, undef, undef, undef, undef, undef, undef, undef, undef, undef, undef, undef, undef, undef, undef, undef, undef, undef, undef, undef, undef, undef, undef, undef, undef, undef, undef, undef, undef, undef, undef, undef, undef, undef, undef, undef, undef, undef, undef, undef, undef, undef, undef, undef, undef, undef, undef, undef, undef, undef, undef, undef, undef, undef, undef, undef, undef, undef, undef, undef, undef, undef, undef, undef, undef, undef, undef, undef, undef, undef, undef, undef], defers := [] }) (by as_aux_lemma => kernel_rfl) ?_)
      go_ret
      exact ⟨by rw [HF.out]; rfl, HB0.out⟩
  have q9 : (a.hasOrig == b.hasOrig) = true := beq_iff_eq.2 q
  have n9 : (a.hasOrig != b.hasOrig) = false := by simp [q]
  have E9 := Lib.hid q
  clear q
  go_wp2_with (with_reducible show wpList _ _ _ (⟨some 76, _, _, _, _, _⟩ :: _) _ _; refine StopB ?_)
  refine StopA ?_
  by_cases q : a.orig = b.orig
  case neg =>
    have HF : Hid (r = false) := by show _ = _; rw [← HR.out]; exact decide_eq_false (fun e => q (by have := (AtC.eq_iff.2 e).2.2.2.2.2.2.2.2.2.2.1; exact this))
    clear HQp HQm HQk HR hlt hld HC0 HD0 HOA0 HOB0 gx1 gx2 gx3 gx4 gl1 gl2 gl3 gl4
    have q10 : ((a.orig : Int) == (b.orig : Int)) = false := beq_eq_false_iff_ne.2 (by omega)
    have n10 : ((a.orig : Int) != (b.orig : Int)) = true := by rw [bne, q10]; rfl
    clear q
    as_aux_lemma =>
      go_wp2_with fail
      go_ret
      exact ⟨by rw [HF.out]; rfl, HB0.out⟩
  have q10 : ((a.orig : Int) == (b.orig : Int)) = true := by rw [q]; simp
  have n10 : ((a.orig : Int) != (b.orig : Int)) = false := by rw [q]; simp
  have E10 := Lib.hid q
  clear q
  by_cases q : a.segs.map Sg.c = b.segs.map Sg.c
  case neg =>
    have HF : Hid (r = false) := by show _ = _; rw [← HR.out]; exact decide_eq_false (fun e => q (by have := (AtC.eq_iff.2 e).2.2.2.2.2.2.2.2.2.2.2.1; exact this))
    rw [decide_eq_false q] at HQp
    clear q
    as_aux_lemma =>
      go_wp2_with fail
      refine (HQp.out _ HOA0.out HOB0.out).mono ?_
      rintro e v1 ⟨rfl, hb⟩
      have HB1 : Hid (Below w.heap.size w v1) := HB0.out.trans (hb.mono HB0.out.size)
      clear hb c0 c1 c2 c3 c4 c5 c6 c7 c8 c9 c10 c11 c12 c13 c14 c15 d0 d1 d2 d3 d4 d5 d6 d7 d8 d9 d10 d11 d12 d13 d14 d15
      go_wp2_with fail
      go_ret
      exact ⟨by rw [HF.out]; rfl, HB1.out⟩
  have E11 := Lib.hid q
  rw [decide_eq_true q] at HQp
  clear q
  go_wp2_with fail
  refine (HQp.out _ HOA0.out HOB0.out).mono ?_
  rintro e v1 ⟨rfl, hb⟩
  have HB1 : Hid (Below w.heap.size w v1) := HB0.out.trans (hb.mono HB0.out.size)
  have HC1 : Hid (CellsAt v1 w.heap.size a.ar 33) := HC0.out.below hb HC0.out.lt
  have HD1 : Hid (CellsAt v1 (w.heap.size + 1) b.ar 33) := HD0.out.below hb HD0.out.lt
  have HOA1 : Hid (AtrOk v1 a) := HOA0.out.below hb (Nat.le_refl _)
  have HOB1 : Hid (AtrOk v1 b) := HOB0.out.below hb (Nat.le_refl _)
  clear hb c0 c1 c2 c3 c4 c5 c6 c7 c8 c9 c10 c11 c12 c13 c14 c15 d0 d1 d2 d3 d4 d5 d6 d7 d8 d9 d10 d11 d12 d13 d14 d15
  obtain ⟨c0, c1, c2, c3, c4, c5, c6, c7, c8, c9, c10, c11, c12, c13, c14, c15⟩ := atr_cells HC1.out
  obtain ⟨d0, d1, d2, d3, d4, d5, d6, d7, d8, d9, d10, d11, d12, d13, d14, d15⟩ := atr_cells HD1.out
  by_cases q : a.comms = b.comms
  case neg =>
    have HF : Hid (r = false) := by show _ = _; rw [← HR.out]; exact decide_eq_false (fun e => q (by have := (AtC.eq_iff.2 e).2.2.2.2.2.2.2.2.2.2.2.2.1; exact this))
    rw [decide_eq_false q] at HQm
    clear q
    as_aux_lemma =>
      go_wp2_with fail
      refine (HQm.out _ HOA1.out HOB1.out).mono ?_
      rintro e v2 ⟨rfl, hb⟩
      have HB2 : Hid (Below w.heap.size w v2) := HB1.out.trans (hb.mono HB1.out.size)
      clear hb c0 c1 c2 c3 c4 c5 c6 c7 c8 c9 c10 c11 c12 c13 c14 c15 d0 d1 d2 d3 d4 d5 d6 d7 d8 d9 d10 d11 d12 d13 d14 d15
      go_wp2_with fail
      go_ret
      exact ⟨by rw [HF.out]; rfl, HB2.out⟩
  have E12 := Lib.hid q
  rw [decide_eq_true q] at HQm
  clear q
  go_wp2_with fail
  refine (HQm.out _ HOA1.out HOB1.out).mono ?_
  rintro e v2 ⟨rfl, hb⟩
  have HB2 : Hid (Below w.heap.size w v2) := HB1.out.trans (hb.mono HB1.out.size)
  have HC2 : Hid (CellsAt v2 w.heap.size a.ar 33) := HC1.out.below hb HC1.out.lt
  have HD2 : Hid (CellsAt v2 (w.heap.size + 1) b.ar 33) := HD1.out.below hb HD1.out.lt
  have HOA2 : Hid (AtrOk v2 a) := HOA1.out.below hb (Nat.le_refl _)
  have HOB2 : Hid (AtrOk v2 b) := HOB1.out.below hb (Nat.le_refl _)
  clear hb c0 c1 c2 c3 c4 c5 c6 c7 c8 c9 c10 c11 c12 c13 c14 c15 d0 d1 d2 d3 d4 d5 d6 d7 d8 d9 d10 d11 d12 d13 d14 d15
  obtain ⟨c0, c1, c2, c3, c4, c5, c6, c7, c8, c9, c10, c11, c12, c13, c14, c15⟩ := atr_cells HC2.out
  obtain ⟨d0, d1, d2, d3, d4, d5, d6, d7, d8, d9, d10, d11, d12, d13, d14, d15⟩ := atr_cells HD2.out
  by_cases q : a.clus = b.clus
  case neg =>
    have HF : Hid (r = false) := by show _ = _; rw [← HR.out]; exact decide_eq_false (fun e => q (by have := (AtC.eq_iff.2 e).2.2.2.2.2.2.2.2.2.2.2.2.2.2.2; exact this))
    rw [decide_eq_false q] at HQk
    clear q
    as_aux_lemma =>
      go_wp2_with fail
      refine (HQk.out _ HOA2.out HOB2.out).mono ?_
      rintro e v3 ⟨rfl, hb⟩
      have HB3 : Hid (Below w.heap.size w v3) := HB2.out.trans (hb.mono HB2.out.size)
      clear hb c0 c1 c2 c3 c4 c5 c6 c7 c8 c9 c10 c11 c12 c13 c14 c15 d0 d1 d2 d3 d4 d5 d6 d7 d8 d9 d10 d11 d12 d13 d14 d15
      go_wp2_with fail
      go_ret
      exact ⟨by rw [HF.out]; rfl, HB3.out⟩
  have E15 := Lib.hid q
  rw [decide_eq_true q] at HQk
  clear q
  go_wp2_with fail
  refine (HQk.out _ HOA2.out HOB2.out).mono ?_
  rintro e v3 ⟨rfl, hb⟩
  have HB3 : Hid (Below w.heap.size w v3) := HB2.out.trans (hb.mono HB2.out.size)
  have HC3 : Hid (CellsAt v3 w.heap.size a.ar 33) := HC2.out.below hb HC2.out.lt
  have HD3 : Hid (CellsAt v3 (w.heap.size + 1) b.ar 33) := HD2.out.below hb HD2.out.lt
  have HOA3 : Hid (AtrOk v3 a) := HOA2.out.below hb (Nat.le_refl _)
  have HOB3 : Hid (AtrOk v3 b) := HOB2.out.below hb (Nat.le_refl _)
  clear hb c0 c1 c2 c3 c4 c5 c6 c7 c8 c9 c10 c11 c12 c13 c14 c15 d0 d1 d2 d3 d4 d5 d6 d7 d8 d9 d10 d11 d12 d13 d14 d15
  obtain ⟨c0, c1, c2, c3, c4, c5, c6, c7, c8, c9, c10, c11, c12, c13, c14, c15⟩ := atr_cells HC3.out
  obtain ⟨d0, d1, d2, d3, d4, d5, d6, d7, d8, d9, d10, d11, d12, d13, d14, d15⟩ := atr_cells HD3.out
  by_cases hlexts : a.exts.length = b.exts.length
  case neg =>
    have HF : Hid (r = false) := by show _ = _; rw [← HR.out]; exact decide_eq_false (fun e => hlexts (by have := (AtC.eq_iff.2 e).2.2.2.2.2.2.2.2.2.2.2.2.2.1; exact congrArg List.length this))
    have z1 : ((a.exts.length : Int) != (b.exts.length : Int)) = true := bne_iff_ne.2 (by omega)
    have z2 : ((a.exts.length : Int) == (b.exts.length : Int)) = false := beq_eq_false_iff_ne.2 (by omega)
    clear hlexts
    as_aux_lemma =>
      go_wp2_with fail
      go_ret
      exact ⟨by rw [HF.out]; rfl, HB3.out⟩
  have zexts1 : ((a.exts.length : Int) != (b.exts.length : Int)) = false := by rw [hlexts]; simp
  have zexts2 : ((a.exts.length : Int) == (b.exts.length : Int)) = true := by rw [hlexts]; simp
  have HLexts := Lib.hid hlexts
  clear hlexts
  by_cases hllarges : a.larges.length = b.larges.length
  case neg =>
    have HF : Hid (r = false) := by show _ = _; rw [← HR.out]; exact decide_eq_false (fun e => hllarges (by have := (AtC.eq_iff.2 e).2.2.2.2.2.2.2.2.2.2.2.2.2.2.1; exact congrArg List.length this))
    have z1 : ((a.larges.length : Int) != (b.larges.length : Int)) = true := bne_iff_ne.2 (by omega)
    have z2 : ((a.larges.length : Int) == (b.larges.length : Int)) = false := beq_eq_false_iff_ne.2 (by omega)
    clear hllarges
    as_aux_lemma =>
      go_wp2_with fail
      go_ret
      exact ⟨by rw [HF.out]; rfl, HB3.out⟩
  have zlarges1 : ((a.larges.length : Int) != (b.larges.length : Int)) = false := by rw [hllarges]; simp
  have zlarges2 : ((a.larges.length : Int) == (b.larges.length : Int)) = true := by rw [hllarges]; simp
  have HLlarges := Lib.hid hllarges
  clear hllarges
  have hs3 := HB3.out.size
  have hlt3 := HC3.out.lt
  have hld3 := HD3.out.lt
  clear HB0 HC0 HD0 HOA0 HOB0 HB1 HC1 HD1 HOA1 HOB1 HB2 HC2 HD2 HOA2 HOB2 HQp HQm HQk hlt hld hsW
  go_wp2_with fail
  clear c0 c1 c2 c3 c4 c5 c6 c7 c8 c9 c10 c11 c12 c13 c14 c15 d0 d1 d2 d3 d4 d5 d6 d7 d8 d9 d10 d11 d12 d13 d14 d15
  clear q0 n0 q1 n1 q2 n2 q3 n3 q4 n4 q5 n5 q6 n6 q7 n7 q8 n8 q9 n9 q10 n10
  go_loopw [5] (fun i wr => ∃ k : Nat, i = .int .i64 k ∧ Hid (Below v3.heap.size v3 wr) ∧ Hid (∀ j, j < k → a.exts[j]? = b.exts[j]?)) (fun i _ => a.exts.length + 1 - (intOf i).toNat)
  case atStart => exact ⟨0, rfl, Below.refl _ _, fun j hj => by omega⟩
  case round =>
    as_aux_lemma =>
    obtain ⟨k, rfl, HB, HE⟩ := hrel
    have HC4 : Hid (CellsAt wr w.heap.size a.ar 33) := HC3.out.below HB.out hlt3
    have HD4 : Hid (CellsAt wr (w.heap.size + 1) b.ar 33) := HD3.out.below HB.out hld3
    have HOA4 : Hid (AtrOk wr a) := HOA3.out.below HB.out (Nat.le_refl _)
    have HOB4 : Hid (AtrOk wr b) := HOB3.out.below HB.out (Nat.le_refl _)
    have HB4 : Hid (Below w.heap.size w wr) := HB3.out.trans (HB.out.mono hs3)
    have c11 := (atr_cells HC4.out).2.2.2.2.2.2.2.2.2.2.2.1
    have d11 := (atr_cells HD4.out).2.2.2.2.2.2.2.2.2.2.2.1
    by_cases hlt : k < a.exts.length
    · obtain ⟨x, hx⟩ : ∃ x, a.exts[k]? = some x := ⟨a.exts[k], List.getElem?_eq_getElem hlt⟩
      obtain ⟨y, hy⟩ : ∃ y, b.exts[k]? = some y := ⟨b.exts[k]'(by have := HLexts.out; omega), List.getElem?_eq_getElem (by have := HLexts.out; omega)⟩
      obtain ⟨b1, o1, hA1, hb1, hc1⟩ := num_at HOA4.out.xrd hx
      obtain ⟨b2, o2, hA2, hb2, hc2⟩ := num_at HOB4.out.xrd hy
      rw [hA1] at c11
      rw [hA2] at d11
      have HX := Lib.hid hx
      have HY := Lib.hid hy
      have hkb : k < b.exts.length := by have := HLexts.out; omega
      clear hx hy hA1 hA2
      by_cases hxy : x = y
      · subst hxy
        have hne : ((x : Int) != (x : Int)) = false := by simp
        have he : ((x : Int) == (x : Int)) = true := by simp
        go_wp2_with fail
        go_quiet (fail)
        go_wp2_with fail
        exact ⟨⟨k + 1, by go_num, below_drewN HB.out _, fun j hj => by
          by_cases e : j = k
          · subst e; exact HX.out.trans HY.out.symm
          · exact HE.out j (by omega)⟩, by simp [intOf]; omega⟩
      · have HF : Hid (r = false) := by show _ = _; rw [← HR.out]; exact decide_eq_false (fun e => list_unlike HX.out HY.out hxy (by have := (AtC.eq_iff.2 e).2.2.2.2.2.2.2.2.2.2.2.2.2.1; exact this))
        have he : ((x : Int) == (y : Int)) = false := beq_eq_false_iff_ne.2 (by omega)
        have hne : ((x : Int) != (y : Int)) = true := bne_iff_ne.2 (by omega)
        clear hxy
        go_wp2_with fail
        go_quiet (fail)
        go_wp2_with fail
        go_ret
        exact ⟨by rw [HF.out]; rfl, below_drewN HB4.out _⟩
    · have EX : Hid (a.exts = b.exts) := list_alike HLexts.out (fun j hj => HE.out j (by omega))
      go_wp2_with fail
      clear HB HE HC3 HD3 HOA3 HOB3 HB3 hs3 hlt3 hld3 c11 d11 hlt zexts1 zexts2 gx1 gx2 gx3 gx4
      generalize hwo : wr = wo at *
      clear hwo
      have hs4 := HB4.out.size
      have hlt4 := HC4.out.lt
      have hld4 := HD4.out.lt
      go_loopw [6] (fun i wr => ∃ k : Nat, i = .int .i64 k ∧ Hid (Below wo.heap.size wo wr) ∧ Hid (∀ j, j < k → a.larges[j]? = b.larges[j]?)) (fun i _ => a.larges.length + 1 - (intOf i).toNat)
      case atStart => exact ⟨0, rfl, Below.refl _ _, fun j hj => by omega⟩
      case round =>
        as_aux_lemma =>
        obtain ⟨k, rfl, HB, HE⟩ := hrel
        have HC5 : Hid (CellsAt wr w.heap.size a.ar 33) := HC4.out.below HB.out hlt4
        have HD5 : Hid (CellsAt wr (w.heap.size + 1) b.ar 33) := HD4.out.below HB.out hld4
        have HOA5 : Hid (AtrOk wr a) := HOA4.out.below HB.out (Nat.le_refl _)
        have HOB5 : Hid (AtrOk wr b) := HOB4.out.below HB.out (Nat.le_refl _)
        have HB5 : Hid (Below w.heap.size w wr) := HB4.out.trans (HB.out.mono hs4)
        have c12 := (atr_cells HC5.out).2.2.2.2.2.2.2.2.2.2.2.2.1
        have d12 := (atr_cells HD5.out).2.2.2.2.2.2.2.2.2.2.2.2.1
        by_cases hlt : k < a.larges.length
        · obtain ⟨x, hx⟩ : ∃ x, a.larges[k]? = some x := ⟨a.larges[k], List.getElem?_eq_getElem hlt⟩
          obtain ⟨y, hy⟩ : ∃ y, b.larges[k]? = some y := ⟨b.larges[k]'(by have := HLlarges.out; omega), List.getElem?_eq_getElem (by have := HLlarges.out; omega)⟩
          obtain ⟨b1, o1, hA1, hb1, p0, p1, p2⟩ := lg_at HOA5.out.lrd hx
          obtain ⟨b2, o2, hA2, hb2, q0, q1, q2⟩ := lg_at HOB5.out.lrd hy
          rw [hA1] at c12
          rw [hA2] at d12
          have HX := Lib.hid hx
          have HY := Lib.hid hy
          have hkb : k < b.larges.length := by have := HLlarges.out; omega
          clear hx hy hA1 hA2
          by_cases hxy : x = y
          · subst hxy
            have he0 : ((x.g : Int) == (x.g : Int)) = true := by simp
            have he1 : ((x.a : Int) == (x.a : Int)) = true := by simp
            have he2 : ((x.b : Int) == (x.b : Int)) = true := by simp
            go_wp2_with fail
            go_quiet (fail)
            go_wp2_with fail
            exact ⟨⟨k + 1, by go_num, below_drewN HB.out _, fun j hj => by
              by_cases e : j = k
              · subst e; exact HX.out.trans HY.out.symm
              · exact HE.out j (by omega)⟩, by simp [intOf]; omega⟩
          · have HF : Hid (r = false) := by show _ = _; rw [← HR.out]; exact decide_eq_false (fun e => list_unlike HX.out HY.out hxy (by have := (AtC.eq_iff.2 e).2.2.2.2.2.2.2.2.2.2.2.2.2.2.1; exact this))
            have HD : Hid (¬ (x.g = y.g ∧ x.a = y.a ∧ x.b = y.b)) := fun e => hxy (Lg.eq_iff.1 e)
            clear hxy
            by_cases d0 : x.g = y.g
            · have he0 : ((x.g : Int) == (y.g : Int)) = true := by simp [d0]
              by_cases d1 : x.a = y.a
              · have he1 : ((x.a : Int) == (y.a : Int)) = true := by simp [d1]
                have d2 : ¬ x.b = y.b := fun e => HD.out ⟨d0, d1, e⟩
                have he2 : ((x.b : Int) == (y.b : Int)) = false := beq_eq_false_iff_ne.2 (by omega)
                clear d0 d1 d2
                go_wp2_with fail
                go_quiet (fail)
                go_wp2_with fail
                go_ret
                exact ⟨by rw [HF.out]; rfl, below_drewN HB5.out _⟩
              · have he1 : ((x.a : Int) == (y.a : Int)) = false := beq_eq_false_iff_ne.2 (by omega)
                clear d0 d1
                go_wp2_with fail
                go_quiet (fail)
                go_wp2_with fail
                go_ret
                exact ⟨by rw [HF.out]; rfl, below_drewN HB5.out _⟩
            · have he0 : ((x.g : Int) == (y.g : Int)) = false := beq_eq_false_iff_ne.2 (by omega)
              clear d0
              go_wp2_with fail
              go_quiet (fail)
              go_wp2_with fail
              go_ret
              exact ⟨by rw [HF.out]; rfl, below_drewN HB5.out _⟩
        · have EL : Hid (a.larges = b.larges) := list_alike HLlarges.out (fun j hj => HE.out j (by omega))
          have HT : Hid (r = true) := by show _ = _; rw [← HR.out]; exact decide_eq_true (AtC.eq_iff.1 ⟨E0.out, E1.out, E2.out, E3.out, E4.out, E5.out, E6.out, E7.out, E8.out, E9.out, E10.out, E11.out, E12.out, EX.out, EL.out, E15.out⟩)
          go_wp2_with fail
          go_ret
          exact ⟨by rw [HT.out]; rfl, HB5.out⟩
end Go.Proofs.YtojiieghjhjoaaaGreat
