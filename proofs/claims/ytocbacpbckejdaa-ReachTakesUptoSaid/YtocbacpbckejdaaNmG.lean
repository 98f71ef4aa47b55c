/-
  Contract of heraldref07.first. Conditions: sizes.
-/
import Derived.Test.YtocbacpbckejdaaNmF
import Derived.BigRegion
set_option linter.unusedVariables false
set_option linter.unusedSimpArgs false
namespace Go.Proofs.Ytocbacpbckejdaa
open Go.RowKit

theorem sA {α : Type} {l : List α} {i : Nat} {a : α} : l.toArray.setIfInBounds i a = (l.set i a).toArray := List.setIfInBounds_toArray l i a
theorem sZ {α : Type} {a b : α} {l : List α} : (a :: l).set 0 b = b :: l := List.set_cons_zero
theorem sS {α : Type} {a b : α} {l : List α} {n : Nat} : (a :: l).set (n + 1) b = a :: l.set n b := List.set_cons_succ
theorem wp_store1 {ops : Array Oper} {o : Oper} {a : Act} {W : World} {K : Act → World → Prop} {Q : Exit → Act → World → Prop} (hw : Region.wanted o (yielded ops a.tmps) = true) (ty : TypeId) (p q : Operand) (ho : o.op = .store ty p q) (b i : Nat) (hx : a.eval p = .pointer (some ⟨b, i, none⟩)) (v : Value) (hy : a.eval q = v)
    (hi : (Try.prog.info? ty).map (·.size) = some 1) (ht : (W.cell? ⟨b, i, none⟩).isSome = true) (hf : W.frozen? ⟨b, i, none⟩ = false) (h1 : v.oneCell' = true) (h : K (a.put o.dst undef) (W.setCell ⟨b, i, none⟩ v)) :
    if Region.wanted o (yielded ops a.tmps) = true then Oper.wp Try.prog o a W K Q else K (a.put o.dst undef) W := by
  rw [if_pos hw]
  unfold Oper.wp execOp
  simp only [ho, hx, hy, run_storeAt_one (P := Try.prog) W b i ty v ht hf hi h1, Sem.run_bind, Sem.run_pure, Result.andThen_ok]
  exact h
theorem or3b (x1 x2 x3 : UInt8) : bits .or .u32 (bits .or .u32 ((x1.toNat : Int) * 65536) ((x2.toNat : Int) * 256)) (x3.toNat : Int) = ((x1.toNat * 65536 + x2.toNat * 256 + x3.toNat : Nat) : Int) := by
  have l1 := x1.toNat_lt
  have l2 := x2.toNat_lt
  have l3 := x3.toNat_lt
  have e : bits .or .u32 ((x1.toNat : Int) * 65536) ((x2.toNat : Int) * 256) = (x1.toNat : Int) * 65536 + (x2.toNat : Int) * 256 := by
    rw [u32_or _ _ (by omega) (by omega) (by omega) (by omega), nat_join 16 _ _ (by omega) (by omega)]
    omega
  rw [e, u32_or _ _ (by omega) (by omega) (by omega) (by omega), nat_join 8 _ _ (by omega) (by omega)]
  omega
theorem or_rd (a b : Nat) (ha : a < 4294967296) (hb : b < 4294967296) : bits .or .u64 ((a : Int) * 4294967296) (b : Int) = ((a * 4294967296 + b : Nat) : Int) := by
  rw [u64_or _ _ (by omega) (by omega) (by omega) (by omega), nat_join 32 _ _ (by omega) (by omega)]
  omega
theorem three_at {l : List UInt8} {p : Nat} {y1 y2 y3 : UInt8} (h1 : l[p]? = some y1) (h2 : l[p + 1]? = some y2) (h3 : l[p + 2]? = some y3) : (l.drop p).take 3 = [y1, y2, y3] := by
  apply List.ext_getElem?
  intro i
  rw [List.getElem?_take]
  by_cases hi : i < 3
  · rw [if_pos hi, List.getElem?_drop]
    rcases (show i = 0 ∨ i = 1 ∨ i = 2 by omega) with rfl | rfl | rfl
    · exact h1
    · exact h2
    · exact h3
  · rw [if_neg hi, List.getElem?_eq_none (by simp; omega)]
theorem beVal_foldl (b : List UInt8) : ∀ v : Nat, b.foldl (fun v c => v * 256 + c.toNat) v = v * 256 ^ b.length + beVal b := by
  induction b with
  | nil => intro v; simp [beVal]
  | cons x r ih =>
    intro v
    have h := ih (v * 256 + x.toNat)
    have h2 := ih (0 * 256 + x.toNat)
    unfold beVal
    rw [List.foldl_cons, List.foldl_cons, h, h2, List.length_cons, Nat.pow_succ, Nat.add_mul, Nat.mul_assoc, Nat.mul_comm 256, Nat.zero_mul, Nat.zero_add, Nat.add_assoc]
theorem beVal_split {b : List UInt8} (h : b.length = 8) : beVal b = beVal (b.take 4) * 4294967296 + beVal (b.drop 4) := by
  conv => lhs; rw [← List.take_append_drop 4 b]
  unfold beVal
  rw [List.foldl_append, beVal_foldl, List.length_drop, h]
  rfl
abbrev fA0 : Oper := { dst := some 28, op := Op.move (Operand.tmp 0), type := 9, pos := "ref.go:113", after := #[], guard := none }
abbrev fA1 : Oper := { dst := some 29, op := Op.move (Operand.tmp 9), type := 3, pos := "ref.go:113", after := #[], guard := none }
abbrev fA2 : Oper := { dst := some 30, op := Op.index 9 (Operand.tmp 28) (Operand.tmp 29), type := 5, pos := "ref.go:113", after := #[{ on := 0, ground := Ground.data }, { on := 1, ground := Ground.data }], guard := none }
abbrev fA3 : Oper := { dst := some 31, op := Op.convert 5 3 (Operand.tmp 30), type := 3, pos := "ref.go:113", after := #[{ on := 2, ground := Ground.data }], guard := none }
abbrev fA4 : Oper := { dst := some 32, op := Op.move (Operand.tmp 1), type := 3, pos := "ref.go:113", after := #[], guard := none }
abbrev fA5 : Oper := { dst := some 33, op := Op.call { callee := Callee.value (Operand.func 68), args := #[Operand.tmp 32], argTypes := #[3] }, type := 3, pos := "ref.go:113", after := #[{ on := 4, ground := Ground.data }], guard := none }
abbrev fA6 : Oper := { dst := some 34, op := Op.binOp BinOp.sub 3 (Operand.tmp 31) (Operand.tmp 33) 3, type := 3, pos := "ref.go:113", after := #[{ on := 3, ground := Ground.data }, { on := 5, ground := Ground.data }], guard := none }
abbrev fA7 : Oper := { dst := some 10, op := Op.assign (Operand.tmp 34), type := 3, pos := "ref.go:113", after := #[{ on := 6, ground := Ground.data }, { on := 5, ground := Ground.chain }, { on := 0, ground := Ground.phase }, { on := 1, ground := Ground.phase }, { on := 2, ground := Ground.phase }, { on := 3, ground := Ground.phase }, { on := 4, ground := Ground.phase }, { on := 5, ground := Ground.phase }, { on := 6, ground := Ground.phase }], guard := none }
abbrev fB0 : Oper := { dst := some 64, op := Op.move (Operand.tmp 0), type := 9, pos := "ref.go:120", after := #[], guard := none }
abbrev fB1 : Oper := { dst := some 65, op := Op.move (Operand.tmp 9), type := 3, pos := "ref.go:120", after := #[], guard := none }
abbrev fB2 : Oper := { dst := some 66, op := Op.index 9 (Operand.tmp 64) (Operand.tmp 65), type := 5, pos := "ref.go:120", after := #[{ on := 0, ground := Ground.data }, { on := 1, ground := Ground.data }], guard := none }
abbrev fB3 : Oper := { dst := some 67, op := Op.convert 5 45 (Operand.tmp 66), type := 45, pos := "ref.go:120", after := #[{ on := 2, ground := Ground.data }], guard := none }
abbrev fB4 : Oper := { dst := some 68, op := Op.binOp BinOp.shl 45 (Operand.tmp 67) (Operand.const (Value.int IntKind.u64 16)) 83, type := 45, pos := "ref.go:120", after := #[{ on := 3, ground := Ground.data }], guard := none }
abbrev fB5 : Oper := { dst := some 69, op := Op.move (Operand.tmp 0), type := 9, pos := "ref.go:120", after := #[], guard := none }
abbrev fB6 : Oper := { dst := some 70, op := Op.move (Operand.tmp 9), type := 3, pos := "ref.go:120", after := #[], guard := none }
abbrev fB7 : Oper := { dst := some 71, op := Op.binOp BinOp.add 3 (Operand.tmp 70) (Operand.const (Value.int IntKind.i64 1)) 3, type := 3, pos := "ref.go:120", after := #[{ on := 6, ground := Ground.data }], guard := none }
abbrev fB8 : Oper := { dst := some 72, op := Op.index 9 (Operand.tmp 69) (Operand.tmp 71), type := 5, pos := "ref.go:120", after := #[{ on := 5, ground := Ground.data }, { on := 7, ground := Ground.data }], guard := none }
abbrev fB9 : Oper := { dst := some 73, op := Op.convert 5 45 (Operand.tmp 72), type := 45, pos := "ref.go:120", after := #[{ on := 8, ground := Ground.data }], guard := none }
abbrev fB10 : Oper := { dst := some 74, op := Op.binOp BinOp.shl 45 (Operand.tmp 73) (Operand.const (Value.int IntKind.u64 8)) 83, type := 45, pos := "ref.go:120", after := #[{ on := 9, ground := Ground.data }], guard := none }
abbrev fB11 : Oper := { dst := some 75, op := Op.binOp BinOp.or 45 (Operand.tmp 68) (Operand.tmp 74) 45, type := 45, pos := "ref.go:120", after := #[{ on := 4, ground := Ground.data }, { on := 10, ground := Ground.data }], guard := none }
abbrev fB12 : Oper := { dst := some 76, op := Op.move (Operand.tmp 0), type := 9, pos := "ref.go:120", after := #[], guard := none }
abbrev fB13 : Oper := { dst := some 77, op := Op.move (Operand.tmp 9), type := 3, pos := "ref.go:120", after := #[], guard := none }
abbrev fB14 : Oper := { dst := some 78, op := Op.binOp BinOp.add 3 (Operand.tmp 77) (Operand.const (Value.int IntKind.i64 2)) 3, type := 3, pos := "ref.go:120", after := #[{ on := 13, ground := Ground.data }], guard := none }
abbrev fB15 : Oper := { dst := some 79, op := Op.index 9 (Operand.tmp 76) (Operand.tmp 78), type := 5, pos := "ref.go:120", after := #[{ on := 12, ground := Ground.data }, { on := 14, ground := Ground.data }], guard := none }
abbrev fB16 : Oper := { dst := some 80, op := Op.convert 5 45 (Operand.tmp 79), type := 45, pos := "ref.go:120", after := #[{ on := 15, ground := Ground.data }], guard := none }
abbrev fB17 : Oper := { dst := some 81, op := Op.binOp BinOp.or 45 (Operand.tmp 75) (Operand.tmp 80) 45, type := 45, pos := "ref.go:120", after := #[{ on := 11, ground := Ground.data }, { on := 16, ground := Ground.data }], guard := none }
abbrev fB18 : Oper := { dst := some 12, op := Op.assign (Operand.tmp 81), type := 45, pos := "ref.go:120", after := #[{ on := 17, ground := Ground.data }, { on := 0, ground := Ground.phase }, { on := 1, ground := Ground.phase }, { on := 2, ground := Ground.phase }, { on := 3, ground := Ground.phase }, { on := 4, ground := Ground.phase }, { on := 5, ground := Ground.phase }, { on := 6, ground := Ground.phase }, { on := 7, ground := Ground.phase }, { on := 8, ground := Ground.phase }, { on := 9, ground := Ground.phase }, { on := 10, ground := Ground.phase }, { on := 11, ground := Ground.phase }, { on := 12, ground := Ground.phase }, { on := 13, ground := Ground.phase }, { on := 14, ground := Ground.phase }, { on := 15, ground := Ground.phase }, { on := 16, ground := Ground.phase }, { on := 17, ground := Ground.phase }], guard := none }
abbrev fC0 : Oper := { dst := some 102, op := Op.move (Operand.tmp 0), type := 9, pos := "ref.go:131", after := #[], guard := none }
abbrev fC1 : Oper := { dst := some 103, op := Op.move (Operand.tmp 9), type := 3, pos := "ref.go:131", after := #[], guard := none }
abbrev fC2 : Oper := { dst := some 104, op := Op.slice 9 (Operand.tmp 102) (some (Operand.tmp 103)) none none, type := 9, pos := "ref.go:131", after := #[{ on := 0, ground := Ground.data }, { on := 1, ground := Ground.data }], guard := none }
abbrev fC3 : Oper := { dst := some 105, op := Op.call { callee := Callee.value (Operand.func 72), args := #[Operand.tmp 104], argTypes := #[9] }, type := 45, pos := "ref.go:131", after := #[{ on := 2, ground := Ground.data }], guard := none }
abbrev fC4 : Oper := { dst := some 106, op := Op.convert 45 42 (Operand.tmp 105), type := 42, pos := "ref.go:131", after := #[{ on := 3, ground := Ground.data }], guard := none }
abbrev fC5 : Oper := { dst := some 107, op := Op.binOp BinOp.shl 42 (Operand.tmp 106) (Operand.const (Value.int IntKind.u64 32)) 83, type := 42, pos := "ref.go:131", after := #[{ on := 4, ground := Ground.data }], guard := none }
abbrev fC6 : Oper := { dst := some 108, op := Op.move (Operand.tmp 0), type := 9, pos := "ref.go:131", after := #[], guard := none }
abbrev fC7 : Oper := { dst := some 109, op := Op.move (Operand.tmp 9), type := 3, pos := "ref.go:131", after := #[], guard := none }
abbrev fC8 : Oper := { dst := some 110, op := Op.binOp BinOp.add 3 (Operand.tmp 109) (Operand.const (Value.int IntKind.i64 4)) 3, type := 3, pos := "ref.go:131", after := #[{ on := 7, ground := Ground.data }], guard := none }
abbrev fC9 : Oper := { dst := some 111, op := Op.slice 9 (Operand.tmp 108) (some (Operand.tmp 110)) none none, type := 9, pos := "ref.go:131", after := #[{ on := 6, ground := Ground.data }, { on := 8, ground := Ground.data }], guard := none }
abbrev fC10 : Oper := { dst := some 112, op := Op.call { callee := Callee.value (Operand.func 72), args := #[Operand.tmp 111], argTypes := #[9] }, type := 45, pos := "ref.go:131", after := #[{ on := 9, ground := Ground.data }, { on := 3, ground := Ground.chain }], guard := none }
abbrev fC11 : Oper := { dst := some 113, op := Op.convert 45 42 (Operand.tmp 112), type := 42, pos := "ref.go:131", after := #[{ on := 10, ground := Ground.data }], guard := none }
abbrev fC12 : Oper := { dst := some 114, op := Op.binOp BinOp.or 42 (Operand.tmp 107) (Operand.tmp 113) 42, type := 42, pos := "ref.go:131", after := #[{ on := 5, ground := Ground.data }, { on := 11, ground := Ground.data }], guard := none }
abbrev fC13 : Oper := { dst := some 115, op := Op.fieldAddr 47 (Operand.tmp 8) 0, type := 0, pos := "ref.go:131", after := #[{ on := 0, ground := Ground.phase }, { on := 1, ground := Ground.phase }, { on := 2, ground := Ground.phase }, { on := 3, ground := Ground.phase }, { on := 4, ground := Ground.phase }, { on := 5, ground := Ground.phase }, { on := 6, ground := Ground.phase }, { on := 7, ground := Ground.phase }, { on := 8, ground := Ground.phase }, { on := 9, ground := Ground.phase }, { on := 10, ground := Ground.phase }, { on := 11, ground := Ground.phase }, { on := 12, ground := Ground.phase }], guard := none }
abbrev fC14 : Oper := { dst := some 116, op := Op.fieldAddr 44 (Operand.tmp 115) 1, type := 0, pos := "ref.go:131", after := #[{ on := 13, ground := Ground.data }, { on := 0, ground := Ground.phase }, { on := 1, ground := Ground.phase }, { on := 2, ground := Ground.phase }, { on := 3, ground := Ground.phase }, { on := 4, ground := Ground.phase }, { on := 5, ground := Ground.phase }, { on := 6, ground := Ground.phase }, { on := 7, ground := Ground.phase }, { on := 8, ground := Ground.phase }, { on := 9, ground := Ground.phase }, { on := 10, ground := Ground.phase }, { on := 11, ground := Ground.phase }, { on := 12, ground := Ground.phase }], guard := none }
abbrev fC15 : Oper := { dst := none, op := Op.store 42 (Operand.tmp 116) (Operand.tmp 114), type := 0, pos := "ref.go:131", after := #[{ on := 14, ground := Ground.data }, { on := 12, ground := Ground.data }, { on := 10, ground := Ground.chain }, { on := 0, ground := Ground.phase }, { on := 1, ground := Ground.phase }, { on := 2, ground := Ground.phase }, { on := 3, ground := Ground.phase }, { on := 4, ground := Ground.phase }, { on := 5, ground := Ground.phase }, { on := 6, ground := Ground.phase }, { on := 7, ground := Ground.phase }, { on := 8, ground := Ground.phase }, { on := 9, ground := Ground.phase }, { on := 10, ground := Ground.phase }, { on := 11, ground := Ground.phase }, { on := 12, ground := Ground.phase }], guard := none }
end Go.Proofs.Ytocbacpbckejdaa
