/-
  Contracts of heraldref01.Bit, May. Conditions: sizes.
-/
import Derived.Test.YtocbacpbckejdaaNlA
set_option linter.unusedVariables false
set_option linter.unusedSimpArgs false
namespace Go.Proofs.Ytocbacpbckejdaa
open Go.RowKit

/-- a bit of an address -/
def bitV (b : ByteArray) (n : Nat) : Nat := (b.data.toList.getD (n / 8) 0).toNat / 2 ^ (7 - n % 8) % 2

theorem mval_bits (x : UInt8) (L : Int) : mval x L = x ↔ ∀ t : Nat, t < 8 → L ≤ t → x.toNat / 2 ^ (7 - t) % 2 = 0 := by
  have key : ∀ (y : Fin 256) (M : Fin 9), (mval (UInt8.ofNat y.val) (M.val : Int) = UInt8.ofNat y.val) ↔ ∀ t : Fin 8, M.val ≤ t.val → (UInt8.ofNat y.val).toNat / 2 ^ (7 - t.val) % 2 = 0 := by decide +kernel
  have hx : UInt8.ofNat x.toNat = x := by simp
  have k := key ⟨x.toNat, x.toNat_lt⟩
  simp only [hx] at k
  by_cases h0 : L ≤ 0
  · have e : mval x L = mval x ((0 : Nat) : Int) := by unfold mval; rw [if_pos h0, if_pos (by omega)]
    rw [e, k ⟨0, by omega⟩]
    exact ⟨fun h t ht _ => h ⟨t, ht⟩ (by simp), fun h t _ => h t.val t.isLt (by omega)⟩
  · by_cases h8 : L < 8
    · have e : (L : Int) = ((L.toNat : Nat) : Int) := by omega
      have := k ⟨L.toNat, by omega⟩
      rw [← e] at this
      rw [this]
      exact ⟨fun h t ht hl => h ⟨t, ht⟩ (by show L.toNat ≤ t; omega), fun h t hl => h t.val t.isLt (by have : L.toNat ≤ t.val := hl; omega)⟩
    · refine ⟨fun _ t ht hl => by omega, fun _ => ?_⟩
      unfold mval
      rw [if_neg h0, if_neg h8]

theorem maskB_bits (b : ByteArray) (N : Int) : maskB b N = b ↔ ∀ i : Nat, N ≤ i → i < 8 * b.size → bitV b i = 0 := by
  have hl : b.data.toList.length = b.size := by rw [Array.length_toList]; rfl
  have h1 : maskB b N = b ↔ maskK b.data.toList N b.size = b.data.toList := by
    constructor
    · intro h
      have := congrArg (fun x : ByteArray => x.data.toList) h
      simpa [maskB] using this
    · intro h
      unfold maskB
      rw [h]
  rw [h1]
  have h2 : maskK b.data.toList N b.size = b.data.toList ↔ ∀ j (hj : j < b.data.toList.length), mval b.data.toList[j] (N - 8 * (j : Int)) = b.data.toList[j] := by
    constructor
    · intro h j hj
      have := congrArg (fun l : List UInt8 => l[j]?) h
      simp only [maskK, List.getElem?_mapIdx, List.getElem?_eq_getElem hj, Option.map_some, Option.some.injEq] at this
      rw [if_pos (by omega)] at this
      exact this
    · intro h
      apply List.ext_getElem?
      intro j
      by_cases hj : j < b.data.toList.length
      · simp only [maskK, List.getElem?_mapIdx, List.getElem?_eq_getElem hj, Option.map_some, Option.some.injEq]
        rw [if_pos (by omega)]
        exact h j hj
      · rw [List.getElem?_eq_none (by simp [maskK]; omega), List.getElem?_eq_none (by omega)]
  rw [h2]
  constructor
  · intro h i hN hi
    have hj : i / 8 < b.data.toList.length := by omega
    have := (mval_bits _ _).1 (h (i / 8) hj) (i % 8) (by omega) (by omega)
    unfold bitV
    rw [List.getD_eq_getElem?_getD, List.getElem?_eq_getElem hj]
    exact this
  · intro h j hj
    refine (mval_bits _ _).2 fun t ht hl => ?_
    have := h (8 * j + t) (by omega) (by omega)
    unfold bitV at this
    rw [show (8 * j + t) / 8 = j by omega, show (8 * j + t) % 8 = t by omega, List.getD_eq_getElem?_getD, List.getElem?_eq_getElem hj] at this
    exact this

theorem bit_and (x : UInt8) (s : Nat) (h : s < 8) : bits .and .i64 (wrap64 ((x.toNat : Int) / 2 ^ s)) 1 = ((x.toNat / 2 ^ s % 2 : Nat) : Int) := by
  have key : ∀ (y : Fin 256) (t : Fin 8), bits .and .i64 (wrap64 ((y.val : Int) / 2 ^ t.val)) 1 = ((y.val / 2 ^ t.val % 2 : Nat) : Int) := by decide +kernel
  exact key ⟨x.toNat, x.toNat_lt⟩ ⟨s, h⟩

theorem bit_any (b : ByteArray) (n : Nat) (w : World) (hn : n / 8 < b.size) (hs : b.size ≤ 1000000) : Calls Try.prog 75 #[.string b, .int .i64 n] w fun e w' => e = .returned (.int .i64 (bitV b n)) ∧ w' = w := by
  obtain ⟨q, hq⟩ : ∃ q : Nat, q = n / 8 := ⟨_, rfl⟩
  obtain ⟨s, hs2⟩ : ∃ s : Nat, s = 7 - n % 8 := ⟨_, rfl⟩
  have d8 : (n : Int) / 8 = (q : Int) := by omega
  have d7 : (7 : Int) - (n : Int) % 8 = (s : Int) := by omega
  have hn' : q < b.size := by omega
  have hb : Hid (bitV b n = (b[q]'hn').toNat / 2 ^ s % 2) := by
    show _ = _
    unfold bitV
    rw [← hq, ← hs2, List.getD_eq_getElem?_getD, List.getElem?_eq_getElem (by rw [Array.length_toList]; show q < b.size; omega)]
    rfl
  have hs' : s ≤ 7 := by omega
  clear hq hs2 hn
  have hx := (b[q]'hn').toNat_lt
  go_enter Try.func75, Try.ntmps75
  go_wp2_with fail
  go_ret
  exact ⟨ret_int (by rw [hb.out]; exact bit_and _ s (by omega)), rfl⟩

end Go.Proofs.Ytocbacpbckejdaa
