/-
  Contracts of heraldref05.Four and heraldref07.one. Conditions: sizes.
-/
import Derived.Test.YtocbacpbckejdaaNlX
import Derived.Test.YtocbacpbckejdaaNlW
import Derived.Test.YtocbacpbckejdaaNlR
set_option linter.unusedVariables false
set_option linter.unusedSimpArgs false
namespace Go.Proofs.Ytocbacpbckejdaa
open Go.RowKit

theorem beB4 (n : Int) (h0 : 0 ≤ n) (h1 : n < 4294967296) : #[Value.int .u8 (n / 16777216), .int .u8 (n / 65536 % 256), .int .u8 (n / 256 % 256), .int .u8 (n % 256)] = (byteVals (beB n.toNat 4 4)).toArray := by
  have e : beB n.toNat 4 4 = [UInt8.ofNat (n.toNat / 2 ^ 24), UInt8.ofNat (n.toNat / 2 ^ 16), UInt8.ofNat (n.toNat / 2 ^ 8), UInt8.ofNat (n.toNat / 2 ^ 0)] := rfl
  have t : ∀ m : Nat, ((UInt8.ofNat m).toNat : Int) = ((m % 256 : Nat) : Int) := fun m => by simp
  rw [e]
  unfold byteVals
  simp only [List.map_cons, List.map_nil, t]
  have a1 : n / 16777216 = ((n.toNat / 2 ^ 24 % 256 : Nat) : Int) := by omega
  have a2 : n / 65536 % 256 = ((n.toNat / 2 ^ 16 % 256 : Nat) : Int) := by omega
  have a3 : n / 256 % 256 = ((n.toNat / 2 ^ 8 % 256 : Nat) : Int) := by omega
  have a4 : n % 256 = ((n.toNat / 2 ^ 0 % 256 : Nat) : Int) := by omega
  rw [a1, a2, a3, a4]
theorem beB3 (n : Int) (h0 : 0 ≤ n) (h1 : n < 16777216) : #[Value.int .u8 (n / 65536), .int .u8 (n / 256 % 256), .int .u8 (n % 256)] = (byteVals (beB n.toNat 3 3)).toArray := by
  have e : beB n.toNat 3 3 = [UInt8.ofNat (n.toNat / 2 ^ 16), UInt8.ofNat (n.toNat / 2 ^ 8), UInt8.ofNat (n.toNat / 2 ^ 0)] := rfl
  have t : ∀ m : Nat, ((UInt8.ofNat m).toNat : Int) = ((m % 256 : Nat) : Int) := fun m => by simp
  rw [e]
  unfold byteVals
  simp only [List.map_cons, List.map_nil, t]
  have a2 : n / 65536 = ((n.toNat / 2 ^ 16 % 256 : Nat) : Int) := by omega
  have a3 : n / 256 % 256 = ((n.toNat / 2 ^ 8 % 256 : Nat) : Int) := by omega
  have a4 : n % 256 = ((n.toNat / 2 ^ 0 % 256 : Nat) : Int) := by omega
  rw [a2, a3, a4]
set_option maxRecDepth 100000 in
theorem rfour_any (n : Int) (w : World) (h0 : 0 ≤ n) (h1 : n < 4294967296) : Calls Try.prog 67 #[.int .u32 n] w fun e w' => e = .returned (.string (bts (beB n.toNat 4 4))) ∧ Below w.heap.size w w' := by
  have hc := conv_bytes w (beB n.toNat 4 4) _ (beB4 n h0 h1) 4 (beB_length _ _ _).symm
  have HL : Hid (∀ s : ByteArray, s = ⟨(beB n.toNat 4 4).toArray⟩ → s = bts (beB n.toNat 4 4)) := fun s h => h
  generalize (⟨(beB n.toNat 4 4).toArray⟩ : ByteArray) = S at hc HL
  go_enter Try.func67, Try.ntmps67
  go_wp2_with fail
  go_ret
  exact ⟨ret_val (val_str (HL.out S rfl)), by go_grown⟩
abbrev xO0 : Oper := { dst := some 14, op := Op.move (Operand.tmp 5), type := 9, pos := "ref.go:65", after := #[], guard := none }
abbrev xO1 : Oper := { dst := some 15, op := Op.fieldAddr 44 (Operand.tmp 6) 3, type := 0, pos := "ref.go:65", after := #[], guard := none }
abbrev xO2 : Oper := { dst := some 16, op := Op.load 3 (Operand.tmp 15), type := 3, pos := "ref.go:65", after := #[{ on := 1, ground := Ground.data }], guard := none }
abbrev xO3 : Oper := { dst := some 17, op := Op.fieldAddr 44 (Operand.tmp 6) 0, type := 0, pos := "ref.go:65", after := #[], guard := none }
abbrev xO4 : Oper := { dst := some 18, op := Op.load 3 (Operand.tmp 17), type := 3, pos := "ref.go:65", after := #[{ on := 3, ground := Ground.data }], guard := none }
abbrev xO5 : Oper := { dst := some 19, op := Op.call { callee := Callee.value (Operand.func 68), args := #[Operand.tmp 18], argTypes := #[3] }, type := 3, pos := "ref.go:65", after := #[{ on := 4, ground := Ground.data }], guard := none }
abbrev xO6 : Oper := { dst := some 20, op := Op.binOp BinOp.add 3 (Operand.tmp 16) (Operand.tmp 19) 3, type := 3, pos := "ref.go:65", after := #[{ on := 2, ground := Ground.data }, { on := 5, ground := Ground.data }], guard := none }
abbrev xO7 : Oper := { dst := some 21, op := Op.convert 3 5 (Operand.tmp 20), type := 5, pos := "ref.go:65", after := #[{ on := 6, ground := Ground.data }], guard := none }
abbrev xO8 : Oper := { dst := some 22, op := Op.buildSlice 52 1 #[(0, Operand.tmp 21)], type := 52, pos := "ref.go:65", after := #[{ on := 7, ground := Ground.data }], guard := none }
abbrev xO9 : Oper := { dst := some 23, op := Op.convert 52 9 (Operand.tmp 22), type := 9, pos := "ref.go:65", after := #[{ on := 8, ground := Ground.data }], guard := none }
abbrev xO10 : Oper := { dst := some 24, op := Op.binOp BinOp.add 9 (Operand.tmp 14) (Operand.tmp 23) 9, type := 9, pos := "ref.go:65", after := #[{ on := 0, ground := Ground.data }, { on := 9, ground := Ground.data }], guard := none }
abbrev xO11 : Oper := { dst := some 5, op := Op.assign (Operand.tmp 24), type := 9, pos := "ref.go:65", after := #[{ on := 10, ground := Ground.data }, { on := 5, ground := Ground.chain }, { on := 0, ground := Ground.phase }, { on := 1, ground := Ground.phase }, { on := 2, ground := Ground.phase }, { on := 3, ground := Ground.phase }, { on := 4, ground := Ground.phase }, { on := 5, ground := Ground.phase }, { on := 6, ground := Ground.phase }, { on := 7, ground := Ground.phase }, { on := 8, ground := Ground.phase }, { on := 9, ground := Ground.phase }, { on := 10, ground := Ground.phase }], guard := none }
abbrev yO0 : Oper := { dst := some 47, op := Op.move (Operand.tmp 5), type := 9, pos := "ref.go:71", after := #[], guard := none }
abbrev yO1 : Oper := { dst := some 48, op := Op.fieldAddr 44 (Operand.tmp 6) 1, type := 0, pos := "ref.go:71", after := #[], guard := none }
abbrev yO2 : Oper := { dst := some 49, op := Op.load 42 (Operand.tmp 48), type := 42, pos := "ref.go:71", after := #[{ on := 1, ground := Ground.data }], guard := none }
abbrev yO3 : Oper := { dst := some 50, op := Op.binOp BinOp.shr 42 (Operand.tmp 49) (Operand.const (Value.int IntKind.u64 32)) 83, type := 42, pos := "ref.go:71", after := #[{ on := 2, ground := Ground.data }], guard := none }
abbrev yO4 : Oper := { dst := some 51, op := Op.convert 42 45 (Operand.tmp 50), type := 45, pos := "ref.go:71", after := #[{ on := 3, ground := Ground.data }], guard := none }
abbrev yO5 : Oper := { dst := some 52, op := Op.call { callee := Callee.value (Operand.func 67), args := #[Operand.tmp 51], argTypes := #[45] }, type := 9, pos := "ref.go:71", after := #[{ on := 4, ground := Ground.data }], guard := none }
abbrev yO6 : Oper := { dst := some 53, op := Op.binOp BinOp.add 9 (Operand.tmp 47) (Operand.tmp 52) 9, type := 9, pos := "ref.go:71", after := #[{ on := 0, ground := Ground.data }, { on := 5, ground := Ground.data }], guard := none }
abbrev yO7 : Oper := { dst := some 54, op := Op.fieldAddr 44 (Operand.tmp 6) 1, type := 0, pos := "ref.go:71", after := #[], guard := none }
abbrev yO8 : Oper := { dst := some 55, op := Op.load 42 (Operand.tmp 54), type := 42, pos := "ref.go:71", after := #[{ on := 7, ground := Ground.data }], guard := none }
abbrev yO9 : Oper := { dst := some 56, op := Op.convert 42 45 (Operand.tmp 55), type := 45, pos := "ref.go:71", after := #[{ on := 8, ground := Ground.data }], guard := none }
abbrev yO10 : Oper := { dst := some 57, op := Op.call { callee := Callee.value (Operand.func 67), args := #[Operand.tmp 56], argTypes := #[45] }, type := 9, pos := "ref.go:71", after := #[{ on := 9, ground := Ground.data }, { on := 5, ground := Ground.chain }], guard := none }
abbrev yO11 : Oper := { dst := some 58, op := Op.binOp BinOp.add 9 (Operand.tmp 53) (Operand.tmp 57) 9, type := 9, pos := "ref.go:71", after := #[{ on := 6, ground := Ground.data }, { on := 10, ground := Ground.data }], guard := none }
abbrev yO12 : Oper := { dst := some 5, op := Op.assign (Operand.tmp 58), type := 9, pos := "ref.go:71", after := #[{ on := 11, ground := Ground.data }, { on := 10, ground := Ground.chain }, { on := 0, ground := Ground.phase }, { on := 1, ground := Ground.phase }, { on := 2, ground := Ground.phase }, { on := 3, ground := Ground.phase }, { on := 4, ground := Ground.phase }, { on := 5, ground := Ground.phase }, { on := 6, ground := Ground.phase }, { on := 7, ground := Ground.phase }, { on := 8, ground := Ground.phase }, { on := 9, ground := Ground.phase }, { on := 10, ground := Ground.phase }, { on := 11, ground := Ground.phase }], guard := none }
end Go.Proofs.Ytocbacpbckejdaa
