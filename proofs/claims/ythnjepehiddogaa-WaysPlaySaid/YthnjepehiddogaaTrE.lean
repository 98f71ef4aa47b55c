/-
  How many first bits two addresses share: plain laws of bytes. Conditions: none.
-/
import Derived.Test.YthnjepehiddogaaTrD
set_option linter.unusedVariables false
set_option linter.unusedSimpArgs false
namespace Go.Proofs.Ythnjepehiddogaa
open Go.RowKit

theorem xor_val (x y : UInt8) : bits .xor .u8 (x.toNat : Int) (y.toNat : Int) = ((x.toNat ^^^ y.toNat : Nat) : Int) := by
  have hx := x.toNat_lt
  have hy := y.toNat_lt
  have hxy : x.toNat ^^^ y.toNat < 2 ^ 8 := Nat.xor_lt_two_pow (by omega) (by omega)
  have e1 : (BitVec.ofInt 8 (x.toNat : Int)).toNat = x.toNat := by
    rw [BitVec.toNat_ofInt]
    omega
  have e2 : (BitVec.ofInt 8 (y.toNat : Int)).toNat = y.toNat := by
    rw [BitVec.toNat_ofInt]
    omega
  show IntKind.u8.wrap (((BitVec.ofInt 8 (x.toNat : Int)) ^^^ (BitVec.ofInt 8 (y.toNat : Int))).toNat : Int) = _
  rw [BitVec.toNat_xor, e1, e2]
  exact IntWalk.u8_in _ (by omega)
theorem xor_zero (x y : UInt8) : x.toNat ^^^ y.toNat = 0 ↔ x = y := by
  constructor
  · intro h
    refine u8_bits fun t ht => ?_
    have hb : (x.toNat ^^^ y.toNat).testBit (7 - t) = false := by rw [h]; simp
    rw [Nat.testBit_xor] at hb
    simp only [Nat.testBit_eq_decide_div_mod_eq] at hb
    by_cases hp : x.toNat / 2 ^ (7 - t) % 2 = 1
    · by_cases hq : y.toNat / 2 ^ (7 - t) % 2 = 1
      · omega
      · simp [hp, hq] at hb
    · by_cases hq : y.toNat / 2 ^ (7 - t) % 2 = 1
      · simp [hp, hq] at hb
      · omega
  · intro h
    rw [h]
    exact Nat.xor_self _
theorem xor_bit (x y : UInt8) (t : Nat) : (x.toNat ^^^ y.toNat) / 2 ^ (7 - t) % 2 = 0 ↔ x.toNat / 2 ^ (7 - t) % 2 = y.toNat / 2 ^ (7 - t) % 2 := by
  have hb : (x.toNat ^^^ y.toNat).testBit (7 - t) = (x.toNat.testBit (7 - t) ^^ y.toNat.testBit (7 - t)) := Nat.testBit_xor ..
  simp only [Nat.testBit_eq_decide_div_mod_eq] at hb
  by_cases hp : x.toNat / 2 ^ (7 - t) % 2 = 1 <;> by_cases hq : y.toNat / 2 ^ (7 - t) % 2 = 1 <;> simp [hp, hq] at hb <;> omega
theorem top_bit (X z : Nat) (hX : X < 256) (hz : z < 8) : (X * 2 ^ z % 256 < 128 ↔ X / 2 ^ (7 - z) % 2 = 0) := by
  have key : ∀ (Y : Fin 256) (t : Fin 8), (Y.val * 2 ^ t.val % 256 < 128 ↔ Y.val / 2 ^ (7 - t.val) % 2 = 0) := by decide +kernel
  exact key ⟨X, hX⟩ ⟨z, hz⟩
theorem and_top (X : Nat) (hX : X < 256) : bits .and .u8 (X : Int) 128 = if X < 128 then 0 else 128 := by
  have key : ∀ Y : Fin 256, bits .and .u8 (Y.val : Int) 128 = if Y.val < 128 then 0 else 128 := by decide +kernel
  exact key ⟨X, hX⟩
theorem some_bit (X : Nat) (hX : X < 256) (h0 : X ≠ 0) : ∃ t, t < 8 ∧ X / 2 ^ (7 - t) % 2 ≠ 0 := by
  have key : ∀ Y : Fin 256, Y.val ≠ 0 → ∃ t : Fin 8, Y.val / 2 ^ (7 - t.val) % 2 ≠ 0 := by decide +kernel
  obtain ⟨t, ht⟩ := key ⟨X, hX⟩ h0
  exact ⟨t.val, t.isLt, ht⟩
theorem shl_top (X z : Nat) : IntKind.u8.wrap (((X * 2 ^ z % 256 : Nat) : Int) * 2) = ((X * 2 ^ (z + 1) % 256 : Nat) : Int) := by
  show ((X * 2 ^ z % 256 : Nat) : Int) * 2 % 256 = _
  rw [Nat.pow_succ, ← Nat.mul_assoc]
  omega
theorem bit_at (p : Tp) (i t : Nat) (hi : i < p.addr.size) (ht : t < 8) : p.bit (8 * i + t) = p.addr[i].toNat / 2 ^ (7 - t) % 2 := by
  unfold Tp.bit bitV
  rw [show (8 * i + t) / 8 = i by omega, show (8 * i + t) % 8 = t by omega, List.getD_eq_getElem?_getD, List.getElem?_eq_getElem (by rw [Array.length_toList]; exact hi)]
  rfl
theorem eqb_byte {a b : Tp} {i : Nat} (ha : i < a.addr.size) (hb : i < b.addr.size) (h : eqb (8 * i) a b) (e : a.addr[i].toNat ^^^ b.addr[i].toNat = 0) : eqb (8 * (i + 1)) a b := fun j hj => by
  by_cases hlt : j < 8 * i
  · exact h j hlt
  · obtain ⟨t, rfl⟩ : ∃ t, j = 8 * i + t := ⟨j - 8 * i, by omega⟩
    rw [bit_at a i t ha (by omega), bit_at b i t hb (by omega), (xor_zero _ _).1 e]
theorem cmN_uniq {a b : Tp} {n : Nat} (h : eqb n a b) (hd : a.bit n ≠ b.bit n ∨ min a.len b.len ≤ n) : cmN a b = min (min a.len b.len) n := by
  obtain ⟨h1, h2, h3, h4⟩ := cmN_spec a b
  by_cases hlt : cmN a b < n
  · rcases h4 with h4 | h4 | h4
    · omega
    · omega
    · exact absurd (h _ hlt) h4
  · rcases hd with hd | hd
    · by_cases hgt : n < cmN a b
      · exact absurd (h3 _ hgt) hd
      · omega
    · omega
/-- two that part in byte i, at bit z -/
theorem cmN_byte {a b : Tp} {i z : Nat} (ha : i < a.addr.size) (hb : i < b.addr.size) (hz : z < 8) (h : eqb (8 * i) a b) (h1 : ∀ t, t < z → (a.addr[i].toNat ^^^ b.addr[i].toNat) / 2 ^ (7 - t) % 2 = 0) (h2 : (a.addr[i].toNat ^^^ b.addr[i].toNat) / 2 ^ (7 - z) % 2 ≠ 0) :
    cmN a b = min (min a.len b.len) (8 * i + z) := by
  refine cmN_uniq (fun j hj => ?_) (Or.inl ?_)
  · by_cases hlt : j < 8 * i
    · exact h j hlt
    · obtain ⟨t, rfl⟩ : ∃ t, j = 8 * i + t := ⟨j - 8 * i, by omega⟩
      rw [bit_at a i t ha (by omega), bit_at b i t hb (by omega)]
      exact (xor_bit _ _ _).1 (h1 t (by omega))
  · rw [bit_at a i z ha hz, bit_at b i z hb hz]
    exact fun e => h2 ((xor_bit _ _ _).2 e)
/-- two that do not part -/
theorem cmN_all {a b : Tp} {n : Nat} (h : eqb (8 * n) a b) (hl : min a.len b.len ≤ 8 * n) : cmN a b = min a.len b.len := by
  rw [cmN_uniq h (Or.inr hl)]
  omega
theorem Tp.Ok.size {p : Tp} (h : p.Ok) : (p.addr.size : Int) = famSize p.fam := h.2.1
theorem Tp.Ok.le {p : Tp} (h : p.Ok) : p.len ≤ 8 * p.addr.size := by
  have h1 := h.2.1
  have h2 := h.2.2.2.1
  omega
theorem Tp.Ok.small {p : Tp} (h : p.Ok) : p.addr.size ≤ 16 := by
  have h1 := h.2.1
  have h2 := famSize_in p.fam
  omega
end Go.Proofs.Ythnjepehiddogaa
