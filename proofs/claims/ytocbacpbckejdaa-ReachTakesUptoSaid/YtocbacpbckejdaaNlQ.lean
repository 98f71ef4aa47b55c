/-
  Contract of reach.Put, family by family. Conditions: sizes.
-/
import Derived.Test.YtocbacpbckejdaaNlG
import Derived.Test.YtocbacpbckejdaaNlI
import Derived.Great.BuildSlice
import Derived.Great.FillDense
import Derived.BigRegion
set_option linter.unusedVariables false
set_option linter.unusedSimpArgs false
namespace Go.Proofs.Ytocbacpbckejdaa
open Go.RowKit

/-- what stands ahead of a list -/
def aheadS (f : Int) (next : ByteArray) : ByteArray := headS f ++ ⟨#[UInt8.ofNat (zeroV f + sizeV f).toNat]⟩ ++ ⟨(List.replicate (zeroV f).toNat 0).toArray⟩ ++ next ++ ⟨#[0]⟩
theorem layR_form (ahead : ByteArray) (L : List Nl) (f : Int) (add : Bool) : ∃ (s : ByteArray) (z : Int), layR ahead L f add = .tuple #[.string s, .int .i64 z] := by
  unfold layR
  split
  · exact ⟨_, _, rfl⟩
  · split
    · exact ⟨_, _, rfl⟩
    · exact ⟨_, _, rfl⟩
section
variable {ops : Array Oper} {o : Oper} {a : Act} {W : World} {K : Act → World → Prop} {Q : Exit → Act → World → Prop}
theorem wpAnyH_more {P : Program} {md : Region.Mode} {S S' : World → Prop} (hS : ∀ w, S' w → S w) : ∀ (fuel : Nat) (listed : Array Bool) (a : Act) (w : World), wpAnyH P md ops Q S' fuel listed a w → wpAnyH P md ops Q S fuel listed a w
  | 0, _, _, _, h => h
  | fuel + 1, _, _, _, h => ⟨h.1, fun i hi => wpOp_mono (fun a' w' h' => ⟨hS _ h'.1, wpAnyH_more hS fuel _ a' w' h'.2⟩) (h.2 i hi)⟩
theorem wp_byte1 (hw : Region.wanted o (yielded ops a.tmps) = true) (s : Operand) (ho : o.op = .buildSlice 52 1 #[(0, s)]) (x : UInt8) (i : Int) (hx0 : a.eval s = .int .u8 i) (hi0 : i = (x.toNat : Nat))
    (h : ∀ W', CellsAt W' W.heap.size (byteVals [x]).toArray 5 → Below W.heap.size W W' → K (a.put o.dst (.slice (some ⟨W.heap.size, 0, none⟩) 1 1)) W') : if Region.wanted o (yielded ops a.tmps) = true then Oper.wp Try.prog o a W K Q else K (a.put o.dst undef) W := by
  rw [if_pos hw]
  subst hi0
  have hx := hx0
  obtain ⟨i0, hi, hz0, hz1, hz2⟩ := info_parts infoU8
  refine wp_buildSlice 52 5 1 #[(0, s)] ho (byteVals [x]).toArray i0 _ Try.underlying52 hi hz0 (by rw [hz1]; omega) (by rw [hz1]; omega) ?_ (h _ (CellsAt.new _ _ _) ((Below.refl _ _).alloc (Nat.le_refl _) _))
  rw [hz1]
  have e : (#[(0, s)].map fun (x : Nat × Operand) => match x with | (i, x) => (i, a.eval x)).toList = (([Value.int .u8 (x.toNat : Nat)].zipIdx 0).map fun x => (x.2, x.1)) := by simp [hx]
  rw [e]
  refine (Great.fill_whole (s := 1) (by decide) [Value.int .u8 (x.toNat : Nat)] _ (fun v hv => ?_) ?_).trans rfl
  · simp only [List.mem_singleton] at hv
    subst hv
    rfl
  · rw [Array.size_map, Array.size_range]
    rfl
theorem made_bytes (k : Nat) : madeCells (Value.int IntKind.u8 0).cells k = (byteVals (List.replicate k 0)).toArray := by
  apply Array.toList_inj.1
  show (madeCells #[Value.int IntKind.u8 0] k).toList = _
  unfold madeCells byteVals
  apply List.ext_getElem?
  intro i
  by_cases hi : i < k
  · simp [hi, Nat.mod_one]
  · simp [hi]
theorem wp_make0 (hw : Region.wanted o (yielded ops a.tmps) = true) (p q : Operand) (ho : o.op = .makeSlice 52 p q) (k : Nat) (hx : a.eval p = .int .i64 k) (hy : a.eval q = .int .i64 k) (hk : k ≤ 1000000)
    (h : ∀ W', CellsAt W' W.heap.size (byteVals (List.replicate k 0)).toArray 5 → Below W.heap.size W W' → K (a.put o.dst (.slice (some ⟨W.heap.size, 0, none⟩) k k)) W') : if Region.wanted o (yielded ops a.tmps) = true then Oper.wp Try.prog o a W K Q else K (a.put o.dst undef) W := by
  rw [if_pos hw]
  obtain ⟨i0, hi, hz0, hz1, hz2⟩ := info_parts infoU8
  have hrun := run_makeSlice (P := Try.prog) (w := W) 52 5 i0 _ Try.underlying52 hi hz0 .i64 .i64 k k (by omega) (by omega) (by rw [hz1]; omega) (by rw [hz2]; omega) (by omega)
  rw [Int.toNat_natCast, hz1, Nat.mul_one, made_bytes] at hrun
  unfold Oper.wp execOp
  simp only [ho, hx, hy, hrun, Sem.run_bind, Sem.run_pure, Result.andThen_ok]
  exact h _ (CellsAt.new _ _ _) ((Below.refl _ _).alloc (Nat.le_refl _) _)
theorem conv_at {b n : Nat} {l : List UInt8} (hc : CellsAt W b (byteVals l).toArray 5) (hn : n = l.length) : (convert 52 9 (.slice (some ⟨b, 0, none⟩) n n)).run Try.prog W = .ok (.string ⟨l.toArray⟩) W := by
  subst hn
  refine run_convert_bytes_back (P := Try.prog) _ 52 9 5 ⟨b, 0, none⟩ l.length l Try.underlying52 Try.underlying5 Try.underlying9 (fun j hj => ?_)
  rw [add_flat, hc.c j]
  simp [byteVals, hj]
theorem wp_convb (hw : Region.wanted o (yielded ops a.tmps) = true) (s : Operand) (ho : o.op = .convert 52 9 s) (b n : Nat) (l : List UInt8) (hx : a.eval s = .slice (some ⟨b, 0, none⟩) n n) (hn : n = l.length) (hc : CellsAt W b (byteVals l).toArray 5)
    (h : K (a.put o.dst (.string ⟨l.toArray⟩)) W) : if Region.wanted o (yielded ops a.tmps) = true then Oper.wp Try.prog o a W K Q else K (a.put o.dst undef) W := by
  rw [if_pos hw]
  have hrun := conv_at hc hn
  unfold Oper.wp execOp
  simp only [ho, hx, hrun, Sem.run_bind, Sem.run_pure, Result.andThen_ok]
  exact h
end
abbrev pO0 : Oper := { dst := some 26, op := Op.load 55 (Operand.tmp 10), type := 55, pos := "reach.go:64", after := #[], guard := none }
abbrev pO1 : Oper := { dst := some 27, op := Op.call { callee := Callee.value (Operand.func 32), args := #[Operand.tmp 26], argTypes := #[55] }, type := 9, pos := "reach.go:64", after := #[{ on := 0, ground := Ground.data }], guard := none }
abbrev pO2 : Oper := { dst := some 28, op := Op.fieldAddr 55 (Operand.tmp 10) 2, type := 0, pos := "reach.go:64", after := #[], guard := none }
abbrev pO3 : Oper := { dst := some 29, op := Op.load 3 (Operand.tmp 28), type := 3, pos := "reach.go:64", after := #[{ on := 2, ground := Ground.data }], guard := none }
abbrev pO4 : Oper := { dst := some 30, op := Op.fieldAddr 55 (Operand.tmp 10) 3, type := 0, pos := "reach.go:64", after := #[], guard := none }
abbrev pO5 : Oper := { dst := some 31, op := Op.load 3 (Operand.tmp 30), type := 3, pos := "reach.go:64", after := #[{ on := 4, ground := Ground.data }], guard := none }
abbrev pO6 : Oper := { dst := some 32, op := Op.binOp BinOp.add 3 (Operand.tmp 29) (Operand.tmp 31) 3, type := 3, pos := "reach.go:64", after := #[{ on := 3, ground := Ground.data }, { on := 5, ground := Ground.data }], guard := none }
abbrev pO7 : Oper := { dst := some 33, op := Op.convert 3 5 (Operand.tmp 32), type := 5, pos := "reach.go:64", after := #[{ on := 6, ground := Ground.data }], guard := none }
abbrev pO8 : Oper := { dst := some 34, op := Op.buildSlice 52 1 #[(0, Operand.tmp 33)], type := 52, pos := "reach.go:64", after := #[{ on := 7, ground := Ground.data }], guard := none }
abbrev pO9 : Oper := { dst := some 35, op := Op.convert 52 9 (Operand.tmp 34), type := 9, pos := "reach.go:64", after := #[{ on := 8, ground := Ground.data }], guard := none }
abbrev pO10 : Oper := { dst := some 36, op := Op.binOp BinOp.add 9 (Operand.tmp 27) (Operand.tmp 35) 9, type := 9, pos := "reach.go:64", after := #[{ on := 1, ground := Ground.data }, { on := 9, ground := Ground.data }], guard := none }
abbrev pO11 : Oper := { dst := some 37, op := Op.fieldAddr 55 (Operand.tmp 10) 2, type := 0, pos := "reach.go:64", after := #[], guard := none }
abbrev pO12 : Oper := { dst := some 38, op := Op.load 3 (Operand.tmp 37), type := 3, pos := "reach.go:64", after := #[{ on := 11, ground := Ground.data }], guard := none }
abbrev pO13 : Oper := { dst := some 39, op := Op.makeSlice 52 (Operand.tmp 38) (Operand.tmp 38), type := 52, pos := "reach.go:64", after := #[{ on := 12, ground := Ground.data }, { on := 12, ground := Ground.data }], guard := none }
abbrev pO14 : Oper := { dst := some 40, op := Op.convert 52 9 (Operand.tmp 39), type := 9, pos := "reach.go:64", after := #[{ on := 13, ground := Ground.data }], guard := none }
abbrev pO15 : Oper := { dst := some 41, op := Op.binOp BinOp.add 9 (Operand.tmp 36) (Operand.tmp 40) 9, type := 9, pos := "reach.go:64", after := #[{ on := 10, ground := Ground.data }, { on := 14, ground := Ground.data }], guard := none }
abbrev pO16 : Oper := { dst := some 42, op := Op.move (Operand.tmp 1), type := 9, pos := "reach.go:64", after := #[], guard := none }
abbrev pO17 : Oper := { dst := some 43, op := Op.binOp BinOp.add 9 (Operand.tmp 41) (Operand.tmp 42) 9, type := 9, pos := "reach.go:64", after := #[{ on := 15, ground := Ground.data }, { on := 16, ground := Ground.data }], guard := none }
abbrev pO18 : Oper := { dst := some 44, op := Op.binOp BinOp.add 9 (Operand.tmp 43) (Operand.const (Value.string { data := #[0] })) 9, type := 9, pos := "reach.go:64", after := #[{ on := 17, ground := Ground.data }], guard := none }
abbrev pO19 : Oper := { dst := some 45, op := Op.move (Operand.tmp 0), type := 3, pos := "reach.go:64", after := #[], guard := none }
abbrev pO20 : Oper := { dst := some 46, op := Op.move (Operand.tmp 2), type := 29, pos := "reach.go:64", after := #[], guard := none }
abbrev pO21 : Oper := { dst := some 47, op := Op.move (Operand.tmp 3), type := 4, pos := "reach.go:64", after := #[], guard := none }
abbrev pO22 : Oper := { dst := some 48, op := Op.call { callee := Callee.value (Operand.func 31), args := #[Operand.tmp 44, Operand.tmp 45, Operand.tmp 46, Operand.tmp 47], argTypes := #[9, 3, 29, 4] }, type := 34, pos := "reach.go:64", after := #[{ on := 18, ground := Ground.data }, { on := 19, ground := Ground.data }, { on := 20, ground := Ground.data }, { on := 21, ground := Ground.data }, { on := 1, ground := Ground.chain }], guard := none }
abbrev pO23 : Oper := { dst := some 49, op := Op.extract (Operand.tmp 48) 0, type := 9, pos := "reach.go:64", after := #[{ on := 22, ground := Ground.data }], guard := none }
abbrev pO24 : Oper := { dst := some 50, op := Op.extract (Operand.tmp 48) 1, type := 33, pos := "reach.go:64", after := #[{ on := 22, ground := Ground.data }], guard := none }
abbrev pO25 : Oper := { dst := some 8, op := Op.assign (Operand.tmp 49), type := 9, pos := "reach.go:64", after := #[{ on := 23, ground := Ground.data }, { on := 22, ground := Ground.chain }, { on := 0, ground := Ground.phase }, { on := 1, ground := Ground.phase }, { on := 2, ground := Ground.phase }, { on := 3, ground := Ground.phase }, { on := 4, ground := Ground.phase }, { on := 5, ground := Ground.phase }, { on := 6, ground := Ground.phase }, { on := 7, ground := Ground.phase }, { on := 8, ground := Ground.phase }, { on := 9, ground := Ground.phase }, { on := 10, ground := Ground.phase }, { on := 11, ground := Ground.phase }, { on := 12, ground := Ground.phase }, { on := 13, ground := Ground.phase }, { on := 14, ground := Ground.phase }, { on := 15, ground := Ground.phase }, { on := 16, ground := Ground.phase }, { on := 17, ground := Ground.phase }, { on := 18, ground := Ground.phase }, { on := 19, ground := Ground.phase }, { on := 20, ground := Ground.phase }, { on := 21, ground := Ground.phase }, { on := 22, ground := Ground.phase }, { on := 23, ground := Ground.phase }, { on := 24, ground := Ground.phase }], guard := none }
abbrev pO26 : Oper := { dst := some 9, op := Op.assign (Operand.tmp 50), type := 33, pos := "reach.go:64", after := #[{ on := 24, ground := Ground.data }, { on := 25, ground := Ground.chain }, { on := 0, ground := Ground.phase }, { on := 1, ground := Ground.phase }, { on := 2, ground := Ground.phase }, { on := 3, ground := Ground.phase }, { on := 4, ground := Ground.phase }, { on := 5, ground := Ground.phase }, { on := 6, ground := Ground.phase }, { on := 7, ground := Ground.phase }, { on := 8, ground := Ground.phase }, { on := 9, ground := Ground.phase }, { on := 10, ground := Ground.phase }, { on := 11, ground := Ground.phase }, { on := 12, ground := Ground.phase }, { on := 13, ground := Ground.phase }, { on := 14, ground := Ground.phase }, { on := 15, ground := Ground.phase }, { on := 16, ground := Ground.phase }, { on := 17, ground := Ground.phase }, { on := 18, ground := Ground.phase }, { on := 19, ground := Ground.phase }, { on := 20, ground := Ground.phase }, { on := 21, ground := Ground.phase }, { on := 22, ground := Ground.phase }, { on := 23, ground := Ground.phase }, { on := 24, ground := Ground.phase }, { on := 25, ground := Ground.phase }], guard := none }
end Go.Proofs.Ytocbacpbckejdaa
