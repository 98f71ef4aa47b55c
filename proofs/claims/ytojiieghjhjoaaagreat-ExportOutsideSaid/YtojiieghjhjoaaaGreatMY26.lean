/-
  Several texts in one.
-/
import Derived.Test.YtojiieghjhjoaaaGreatMY25
import Derived.Test.YtojiieghjhjoaaaGreatMY1
import Derived.Handy
import Derived.WalkSpells
import Derived.WalkLawsBesides
import Derived.LoopTactic
import Derived.Deep.QuietTactic
import Derived.BigQuiet
import Derived.Test.YtojiieghjhjoaaaGreatMY7
import Derived.Test.YtojiieghjhjoaaaGreatMY4
import Derived.Deep.RegionHeld3
set_option linter.unusedVariables false
set_option linter.unusedSimpArgs false
namespace Go.Proofs.YtojiieghjhjoaaaGreat
open Go.RowKit

theorem and_mask (x : UInt8) (s : Nat) (h : s < 8) : bits .and .u8 (x.toNat : Int) (255 * 2 ^ s % 256) = ((UInt8.ofNat (x.toNat / 2 ^ s * 2 ^ s)).toNat : Int) := by
  have key : ∀ (y : Fin 256) (t : Fin 8), bits .and .u8 (y.val : Int) (255 * 2 ^ t.val % 256) = ((UInt8.ofNat (y.val / 2 ^ t.val * 2 ^ t.val)).toNat : Int) := by decide +kernel
  exact key ⟨x.toNat, x.toNat_lt⟩ ⟨s, h⟩

set_option maxHeartbeats 1000000 in
theorem masked_any (b : ByteArray) (N : Int) (w : World) (hb : b.size ≤ 1000000) (h0 : -1000000 ≤ N) (h1 : N ≤ 100000000) :
    Calls Tryz.prog 105 #[.string b, .int .i64 N] w fun e w' => e = .returned (.string (maskB b N)) ∧ Below w.heap.size w w' := by
  have hconv := run_bytes_of_string (P := Tryz.prog) w 9 64 5 b Tryz.underlying9 Tryz.underlying64 Tryz.underlying5
  have hown := OwnM.of_bytes w 5 b w.heap.size (Nat.le_refl _) (by unfold maxLen; omega)
  generalize hW : w.drew.alloc (.cells (bytesRow b (grownCap w b.size 0 5)) 5 ((bytesRow b (grownCap w b.size 0 5)).size, (bytesRow b (grownCap w b.size 0 5)).size + 1)) = W at hconv hown
  have HB : Hid (Below w.heap.size w W) := by
    show Below _ _ _
    rw [← hW]
    go_grown
  have HO := Lib.hid hown
  clear hown hW
  have hlen : b.data.toList.length = b.size := by rw [Array.length_toList]; rfl
  go_enter Tryz.func105, Tryz.ntmps105
  go_wp2_with fail
  go_loopw [12] (fun i wr => ∃ k : Nat, k ≤ b.size ∧ i = .int .i64 k ∧ OwnM wr w.heap.size 5 1 (.slice (some ⟨w.heap.size, 0, none⟩) b.size (grownCap w b.size 0 5)) b.size (byteVals (maskK b.data.toList N k)) ∧ Below w.heap.size w wr) (fun i _ => b.size + 1 - (intOf i).toNat)
  case atStart => exact ⟨0, Nat.zero_le _, rfl, by rw [maskK_zero]; exact HO.out, HB.out⟩
  case round =>
    obtain ⟨k, hk, rfl, ho, hbw⟩ := hrel
    have HO2 := Lib.hid ho
    have HB2 := Lib.hid hbw
    clear ho hbw HO HB hconv
    by_cases hlt : k < b.size
    · have hat := maskK_at b.data.toList N k (by omega)
      have HS := Lib.hid (maskK_succ b.data.toList N k (by omega))
      obtain ⟨hc, hf⟩ := HO2.out.at_ hlt (byteVals_at _ _ _ hat)
      generalize hx : b.data.toList[k] = x at hat HS hc
      have HAT := Lib.hid hat
      clear hat hx
      have hx1 := x.toNat_lt
      by_cases l0 : N - 8 * k ≤ 0
      · have HM : Hid (mval x (N - 8 * k) = 0) := by show _ = _; unfold mval; rw [if_pos l0]
        go_wp2_with fail
        refine ⟨⟨k + 1, by omega, by go_num, ?_, HB2.out.setCell (p := ⟨w.heap.size, k, none⟩) (Nat.le_refl _) _⟩, by simp [intOf]; omega⟩
        rw [HS.out, HM.out, ← byteVals_set]
        exact HO2.out.store hlt _
      · by_cases l8 : N - 8 * k < 8
        · have HM : Hid (mval x (N - 8 * k) = UInt8.ofNat (x.toNat / 2 ^ (8 - (N - 8 * k)).toNat * 2 ^ (8 - (N - 8 * k)).toNat)) := by show _ = _; unfold mval; rw [if_neg l0, if_pos l8]
          have q1 : ¬ (8 - (N - 8 * k) < 0) := by omega
          go_wp2_with fail
          go_region
          all_goals go_wp2_with fail
          refine ⟨⟨k + 1, by omega, by go_num, ?_, below_drewN (HB2.out.setCell (p := ⟨w.heap.size, k, none⟩) (Nat.le_refl _) _) 1⟩, by simp [intOf]; omega⟩
          rw [HS.out, HM.out, ← byteVals_set, and_mask x _ (by omega)]
          exact (HO2.out.store hlt _).drew
        · have HM : Hid (mval x (N - 8 * k) = x) := by show _ = _; unfold mval; rw [if_neg l0, if_neg l8]
          go_wp2_with fail
          refine ⟨⟨k + 1, by omega, by go_num, ?_, HB2.out⟩, by simp [intOf]; omega⟩
          have e : (maskK b.data.toList N k).set k x = maskK b.data.toList N k := by
            apply List.ext_getElem?
            intro i
            rw [List.getElem?_set]
            split
            · rename_i h
              subst h
              rw [HAT.out]
              split
              · rfl
              · rename_i h
                exact absurd (by rw [maskK_length]; omega) h
            · rfl
          rw [HS.out, HM.out, e]
          exact HO2.out
    · obtain rfl : b.size = k := by omega
      have hstr := run_string_m (P := Tryz.prog) wr 64 9 5 w.heap.size b.size _ (maskK b.data.toList N b.size) Tryz.underlying64 Tryz.underlying5 Tryz.underlying9 HO2.out
      go_wp2_with fail
      go_ret
      exact ⟨rfl, HB2.out⟩

end Go.Proofs.YtojiieghjhjoaaaGreat
set_option linter.unusedVariables false
set_option linter.unusedSimpArgs false
namespace Go.Proofs.YtojiieghjhjoaaaGreat
open Go.RowKit

def labB (f : Int) : Bool := decide (3 ≤ f)
def apB (f : Int) : Bool := decide (4 ≤ f)
theorem nlab_any (f : Int) (w : World) (h1 : 1 ≤ f) (h2 : f ≤ 5) : Calls Tryz.prog 88 #[.int .i64 f] w fun e w' => e = .returned (.bool (labB f)) ∧ w' = w := by
  rcases fam_five h1 h2 with rfl | rfl | rfl | rfl | rfl
  all_goals
    go_enter Tryz.func88, Tryz.ntmps88
    go_wp2
    go_ret
    exact ⟨rfl, rfl⟩
theorem rap_any (f : Int) (w : World) (h1 : 1 ≤ f) (h2 : f ≤ 5) : Calls Tryz.prog 138 #[.int .i64 f] w fun e w' => e = .returned (.bool (apB f)) ∧ w' = w := by
  rcases fam_five h1 h2 with rfl | rfl | rfl | rfl | rfl
  all_goals
    go_enter Tryz.func138, Tryz.ntmps138
    go_wp2
    go_ret
    exact ⟨rfl, rfl⟩
theorem rlab_any (f : Int) (w : World) (h1 : 1 ≤ f) (h2 : f ≤ 5) : Calls Tryz.prog 125 #[.int .i64 f] w fun e w' => e = .returned (.bool (labB f)) ∧ w' = w := by
  rcases fam_five h1 h2 with rfl | rfl | rfl | rfl | rfl
  all_goals
    go_enter Tryz.func125, Tryz.ntmps125
    go_wp2_with (first | (refine (rap_any _ _ (by omega) (by omega)).mono ?_; rintro e w1 ⟨rfl, rfl⟩))
    go_ret
    exact ⟨rfl, rfl⟩
theorem rsize_any (f : Int) (w : World) : Calls Tryz.prog 49 #[.int .i64 f] w fun e w' => e = .returned (.int .i64 (famSize f)) ∧ w' = w := by
  by_cases h1 : f = 1
  · subst h1
    go_enter Tryz.func49, Tryz.ntmps49
    go_wp2
    go_ret
    exact ⟨rfl, rfl⟩
  by_cases h2 : f = 2
  · subst h2
    go_enter Tryz.func49, Tryz.ntmps49
    go_wp2
    go_ret
    exact ⟨rfl, rfl⟩
  by_cases h3 : f = 3
  · subst h3
    go_enter Tryz.func49, Tryz.ntmps49
    go_wp2
    go_ret
    exact ⟨rfl, rfl⟩
  by_cases h4 : f = 4
  · subst h4
    go_enter Tryz.func49, Tryz.ntmps49
    go_wp2
    go_ret
    exact ⟨rfl, rfl⟩
  by_cases h5 : f = 5
  · subst h5
    go_enter Tryz.func49, Tryz.ntmps49
    go_wp2
    go_ret
    exact ⟨rfl, rfl⟩
  have e1 : (f == 1) = false := by rw [beq_eq_false_iff_ne]; exact h1
  have e2 : (f == 2) = false := by rw [beq_eq_false_iff_ne]; exact h2
  have e3 : (f == 3) = false := by rw [beq_eq_false_iff_ne]; exact h3
  have e4 : (f == 4) = false := by rw [beq_eq_false_iff_ne]; exact h4
  have e5 : (f == 5) = false := by rw [beq_eq_false_iff_ne]; exact h5
  have hr : Hid (famSize f = 0) := by
    show _ = _
    unfold famSize
    rw [if_neg (by omega), if_neg (by omega)]
  clear h1 h2 h3 h4 h5
  go_enter Tryz.func49, Tryz.ntmps49
  go_wp2
  go_ret
  exact ⟨ret_int hr.out.symm, rfl⟩

theorem famSize_five {f : Int} (h : famSize f ≠ 0) : 1 ≤ f ∧ f ≤ 5 := by
  unfold famSize at h
  split at h
  · omega
  · split at h
    · omega
    · exact absurd rfl h

end Go.Proofs.YtojiieghjhjoaaaGreat
set_option linter.unusedVariables false
set_option linter.unusedSimpArgs false
namespace Go.Proofs.YtojiieghjhjoaaaGreat
open Go.RowKit

/-- a bit of an address -/
def bitV (b : ByteArray) (n : Nat) : Nat := (b.data.toList.getD (n / 8) 0).toNat / 2 ^ (7 - n % 8) % 2

theorem mval_bits (x : UInt8) (L : Int) : mval x L = x ↔ ∀ t : Nat, t < 8 → L ≤ t → x.toNat / 2 ^ (7 - t) % 2 = 0 := by
  have key : ∀ (y : Fin 256) (M : Fin 9), (mval (UInt8.ofNat y.val) (M.val : Int) = UInt8.ofNat y.val) ↔ ∀ t : Fin 8, M.val ≤ t.val → (UInt8.ofNat y.val).toNat / 2 ^ (7 - t.val) % 2 = 0 := by decide +kernel
  have hx : UInt8.ofNat x.toNat = x := by simp
  have k := key ⟨x.toNat, x.toNat_lt⟩
  simp only [hx] at k
  by_cases h0 : L ≤ 0
  · have e : mval x L = mval x ((0 : Nat) : Int) := by unfold mval; rw [if_pos h0, if_pos (by omega)]
    rw [e, k ⟨0, by omega⟩]
    exact ⟨fun h t ht _ => h ⟨t, ht⟩ (by simp), fun h t _ => h t.val t.isLt (by omega)⟩
  · by_cases h8 : L < 8
    · have e : (L : Int) = ((L.toNat : Nat) : Int) := by omega
      have := k ⟨L.toNat, by omega⟩
      rw [← e] at this
      rw [this]
      exact ⟨fun h t ht hl => h ⟨t, ht⟩ (by show L.toNat ≤ t; omega), fun h t hl => h t.val t.isLt (by have : L.toNat ≤ t.val := hl; omega)⟩
    · refine ⟨fun _ t ht hl => by omega, fun _ => ?_⟩
      unfold mval
      rw [if_neg h0, if_neg h8]

theorem maskB_bits (b : ByteArray) (N : Int) : maskB b N = b ↔ ∀ i : Nat, N ≤ i → i < 8 * b.size → bitV b i = 0 := by
  have hl : b.data.toList.length = b.size := by rw [Array.length_toList]; rfl
  have h1 : maskB b N = b ↔ maskK b.data.toList N b.size = b.data.toList := by
    constructor
    · intro h
      have := congrArg (fun x : ByteArray => x.data.toList) h
      simpa [maskB] using this
    · intro h
      unfold maskB
      rw [h]
  rw [h1]
  have h2 : maskK b.data.toList N b.size = b.data.toList ↔ ∀ j (hj : j < b.data.toList.length), mval b.data.toList[j] (N - 8 * (j : Int)) = b.data.toList[j] := by
    constructor
    · intro h j hj
      have := congrArg (fun l : List UInt8 => l[j]?) h
      simp only [maskK, List.getElem?_mapIdx, List.getElem?_eq_getElem hj, Option.map_some, Option.some.injEq] at this
      rw [if_pos (by omega)] at this
      exact this
    · intro h
      apply List.ext_getElem?
      intro j
      by_cases hj : j < b.data.toList.length
      · simp only [maskK, List.getElem?_mapIdx, List.getElem?_eq_getElem hj, Option.map_some, Option.some.injEq]
        rw [if_pos (by omega)]
        exact h j hj
      · rw [List.getElem?_eq_none (by simp [maskK]; omega), List.getElem?_eq_none (by omega)]
  rw [h2]
  constructor
  · intro h i hN hi
    have hj : i / 8 < b.data.toList.length := by omega
    have := (mval_bits _ _).1 (h (i / 8) hj) (i % 8) (by omega) (by omega)
    unfold bitV
    rw [List.getD_eq_getElem?_getD, List.getElem?_eq_getElem hj]
    exact this
  · intro h j hj
    refine (mval_bits _ _).2 fun t ht hl => ?_
    have := h (8 * j + t) (by omega) (by omega)
    unfold bitV at this
    rw [show (8 * j + t) / 8 = j by omega, show (8 * j + t) % 8 = t by omega, List.getD_eq_getElem?_getD, List.getElem?_eq_getElem hj] at this
    exact this

theorem bit_and (x : UInt8) (s : Nat) (h : s < 8) : bits .and .i64 (wrap64 ((x.toNat : Int) / 2 ^ s)) 1 = ((x.toNat / 2 ^ s % 2 : Nat) : Int) := by
  have key : ∀ (y : Fin 256) (t : Fin 8), bits .and .i64 (wrap64 ((y.val : Int) / 2 ^ t.val)) 1 = ((y.val / 2 ^ t.val % 2 : Nat) : Int) := by decide +kernel
  exact key ⟨x.toNat, x.toNat_lt⟩ ⟨s, h⟩

theorem bit_any (b : ByteArray) (n : Nat) (w : World) (hn : n / 8 < b.size) (hs : b.size ≤ 1000000) : Calls Tryz.prog 139 #[.string b, .int .i64 n] w fun e w' => e = .returned (.int .i64 (bitV b n)) ∧ w' = w := by
  obtain ⟨q, hq⟩ : ∃ q : Nat, q = n / 8 := ⟨_, rfl⟩
  obtain ⟨s, hs2⟩ : ∃ s : Nat, s = 7 - n % 8 := ⟨_, rfl⟩
  have d8 : (n : Int) / 8 = (q : Int) := by omega
  have d7 : (7 : Int) - (n : Int) % 8 = (s : Int) := by omega
  have hn' : q < b.size := by omega
  have hb : Hid (bitV b n = (b[q]'hn').toNat / 2 ^ s % 2) := by
    show _ = _
    unfold bitV
    rw [← hq, ← hs2, List.getD_eq_getElem?_getD, List.getElem?_eq_getElem (by rw [Array.length_toList]; show q < b.size; omega)]
    rfl
  have hs' : s ≤ 7 := by omega
  clear hq hs2 hn
  have hx := (b[q]'hn').toNat_lt
  go_enter Tryz.func139, Tryz.ntmps139
  go_wp2_with fail
  go_ret
  exact ⟨ret_int (by rw [hb.out]; exact bit_and _ s (by omega)), rfl⟩

end Go.Proofs.YtojiieghjhjoaaaGreat
