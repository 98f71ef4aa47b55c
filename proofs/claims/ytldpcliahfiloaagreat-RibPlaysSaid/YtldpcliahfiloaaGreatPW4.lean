/-
  Several texts in one.
-/
import Derived.Shelf.Small.Bits
import Derived.Shelf.Small.Strs
import Derived.Shelf.Small.Wraps
import Derived.Shelf.Strconv.Itoa0
import Derived.Ground.Names2Prog
import Derived.Shelf.Slices.SearchI
import Derived.Test.YtldpcliahfiloaaGreatProg
import Derived.Test.YtldpcliahfiloaaGreatPW2
import Derived.Test.YtldpcliahfiloaaGreatPW3
import Derived.Handy
import Derived.WalkSpells
import Derived.WalkLawsBesides
import Derived.LoopTactic
import Derived.Deep.QuietTactic
import Derived.BigQuiet
import Derived.BigRegion
import Derived.Test.YtldpcliahfiloaaGreatPW1
import Derived.Deep.Slices
import Derived.Deep.Fields
import Derived.ChangeSame
import Derived.ChangeSlices
namespace Go.Proofs
open Go.Shelf
def Tryz.lays106_ren : Go.Shelf.Ren := ⟨fun | 106 => 94 | 213 => 107 | 265 => 109 | n => n, fun | 9 => 9 | 3 => 3 | n => n, fun | n => n⟩
theorem Tryz.lays106 : Go.Proofs.Lays.n106 Tryz.prog Tryz.lays106_ren := {
  mixed := by kernel_rfl
  f106 := Tryz.func94.trans (congrArg some (by kernel_rfl))
  f213 := Tryz.func107.trans (congrArg some (by kernel_rfl))
  f265 := Tryz.func109.trans (congrArg some (by kernel_rfl))
  t3 := Tryz.underlying3
  a3 := Tryz.isAgg3
  z3 := Tryz.sizeOf3
  v3 := Tryz.zeroValue3
  t9 := Tryz.underlying9
  a9 := Tryz.isAgg9
  z9 := Tryz.sizeOf9
  v9 := Tryz.zeroValue9 }
open Go.RowKit in
theorem Tryz.strings_Compare (a b : ByteArray) (w : World) :
    Calls Tryz.prog 94 #[.string a, .string b] w fun e w' => e = .returned (.int .i64 (Lib.compareBytes a.data.toList b.data.toList)) ∧ w' = w := Any.strings_Compare Tryz.lays106 a b w
def Tryz.lays122_ren : Go.Shelf.Ren := ⟨fun | 122 => 91 | 215 => 106 | n => n, fun | 3 => 3 | 4 => 4 | n => n, fun | n => n⟩
theorem Tryz.lays122 : Go.Proofs.Lays.n122 Tryz.prog Tryz.lays122_ren := {
  mixed := by kernel_rfl
  f122 := Tryz.func91.trans (congrArg some (by kernel_rfl))
  f215 := Tryz.func106.trans (congrArg some (by kernel_rfl))
  t3 := Tryz.underlying3
  a3 := Tryz.isAgg3
  z3 := Tryz.sizeOf3
  v3 := Tryz.zeroValue3
  t4 := Tryz.underlying4
  a4 := Tryz.isAgg4
  z4 := Tryz.sizeOf4
  v4 := Tryz.zeroValue4 }
open Go.RowKit in
theorem Tryz.cmp_Compare_int (x y : Int) (w : World) :
    Calls Tryz.prog 91 #[.int .i64 x, .int .i64 y] w fun e w' => e = .returned (.int .i64 (Lib.compareInt x y)) ∧ w' = w := Any.cmp_Compare_int Tryz.lays122 x y w
end Go.Proofs
set_option linter.unusedVariables false
set_option linter.unusedSimpArgs false
namespace Go.Proofs.YtldpcliahfiloaaGreat
open Go.RowKit

/-- the first k of size bytes of v, the highest first -/
def beB (v size k : Nat) : List UInt8 := (List.range k).map fun j => UInt8.ofNat (v / 2 ^ (8 * (size - 1 - j)))
end Go.Proofs.YtldpcliahfiloaaGreat
set_option linter.unusedVariables false
set_option linter.unusedSimpArgs false
namespace Go.Proofs.YtldpcliahfiloaaGreat
open Go.RowKit

/-- how many bytes a family's addresses have -/
def famSize (f : Int) : Int := if f = 1 ∨ f = 3 ∨ f = 4 then 4 else if f = 2 ∨ f = 5 then 16 else 0

theorem psize_any (f : Int) (w : World) : Calls Tryz.prog 70 #[.int .i64 f] w fun e w' => e = .returned (.int .i64 (famSize f)) ∧ w' = w := by
  by_cases h1 : f = 1
  · subst h1
    go_enter Tryz.func70, Tryz.ntmps70
    go_wp2
    go_ret
    exact ⟨rfl, rfl⟩
  by_cases h2 : f = 2
  · subst h2
    go_enter Tryz.func70, Tryz.ntmps70
    go_wp2
    go_ret
    exact ⟨rfl, rfl⟩
  by_cases h3 : f = 3
  · subst h3
    go_enter Tryz.func70, Tryz.ntmps70
    go_wp2
    go_ret
    exact ⟨rfl, rfl⟩
  by_cases h4 : f = 4
  · subst h4
    go_enter Tryz.func70, Tryz.ntmps70
    go_wp2
    go_ret
    exact ⟨rfl, rfl⟩
  by_cases h5 : f = 5
  · subst h5
    go_enter Tryz.func70, Tryz.ntmps70
    go_wp2
    go_ret
    exact ⟨rfl, rfl⟩
  have e1 : (f == 1) = false := by rw [beq_eq_false_iff_ne]; exact h1
  have e2 : (f == 2) = false := by rw [beq_eq_false_iff_ne]; exact h2
  have e3 : (f == 3) = false := by rw [beq_eq_false_iff_ne]; exact h3
  have e4 : (f == 4) = false := by rw [beq_eq_false_iff_ne]; exact h4
  have e5 : (f == 5) = false := by rw [beq_eq_false_iff_ne]; exact h5
  have hr : Hid (famSize f = 0) := by
    show _ = _
    unfold famSize
    rw [if_neg (by omega), if_neg (by omega)]
  clear h1 h2 h3 h4 h5
  go_enter Tryz.func70, Tryz.ntmps70
  go_wp2
  go_ret
  exact ⟨ret_int hr.out.symm, rfl⟩

theorem apart_any (f : Int) (w : World) : Calls Tryz.prog 71 #[.int .i64 f] w fun e w' => e = .returned (.bool (decide (f = 4 ∨ f = 5))) ∧ w' = w := by
  by_cases h4 : f = 4
  · subst h4
    go_enter Tryz.func71, Tryz.ntmps71
    go_wp2
    go_ret
    exact ⟨rfl, rfl⟩
  by_cases h5 : f = 5
  · subst h5
    go_enter Tryz.func71, Tryz.ntmps71
    go_wp2
    go_ret
    exact ⟨rfl, rfl⟩
  have e4 : (f == 4) = false := by rw [beq_eq_false_iff_ne]; exact h4
  have e5 : (f == 5) = false := by rw [beq_eq_false_iff_ne]; exact h5
  have hr : Hid (decide (f = 4 ∨ f = 5) = false) := decide_eq_false (by omega)
  clear h4 h5
  go_enter Tryz.func71, Tryz.ntmps71
  go_wp2
  go_ret
  exact ⟨ret_bool hr.out.symm, rfl⟩

/-- a byte with its first bits alone -/
def mval (b : UInt8) (left : Int) : UInt8 := if left ≤ 0 then 0 else if left < 8 then UInt8.ofNat (b.toNat / 2 ^ (8 - left).toNat * 2 ^ (8 - left).toNat) else b
/-- the first k bytes done -/
def maskK (l : List UInt8) (n : Int) (k : Nat) : List UInt8 := l.mapIdx fun i b => if i < k then mval b (n - 8 * i) else b
theorem maskK_length (l : List UInt8) (n : Int) (k : Nat) : (maskK l n k).length = l.length := by simp [maskK]
theorem maskK_at (l : List UInt8) (n : Int) (k : Nat) (h : k < l.length) : (maskK l n k)[k]? = some l[k] := by simp [maskK, h]
theorem maskK_succ (l : List UInt8) (n : Int) (k : Nat) (h : k < l.length) : maskK l n (k + 1) = (maskK l n k).set k (mval l[k] (n - 8 * k)) := by
  apply List.ext_getElem?
  intro i
  simp only [maskK, List.getElem?_set, List.getElem?_mapIdx, List.length_mapIdx]
  by_cases hik : k = i
  · subst hik
    simp [h]
  · simp only [hik, if_false]
    by_cases hi : i < k
    · simp [hi, show i < k + 1 by omega]
    · simp [hi, show ¬ i < k + 1 by omega]
theorem maskK_zero (l : List UInt8) (n : Int) : maskK l n 0 = l := by
  apply List.ext_getElem?
  intro i
  simp [maskK]
/-- an address with its first bits alone -/
def maskB (b : ByteArray) (n : Int) : ByteArray := ⟨(maskK b.data.toList n b.size).toArray⟩

theorem OwnM.store {w : World} {base : Nat} {e : TypeId} {g n cap i : Nat} {xs : List Value} (h : OwnM w base e 1 (.slice (some ⟨g, 0, none⟩) n cap) n xs) (hi : i < n) (u : Value) :
    OwnM (w.setCell ⟨g, i, none⟩ u) base e 1 (.slice (some ⟨g, 0, none⟩) n cap) n (xs.set i u) := by
  refine ⟨by simpa using h.1, ?_⟩
  rcases h.2 with ⟨h0, _⟩ | ⟨g', cap', cur, fr, hv, hb, hgg, hfr, hnc, hcm, hcs, htake⟩
  · cases h0
  · injection hv with h1 h2 h3
    injection h1 with h1
    injection h1 with h1
    subst h1; subst h3
    refine .inr ⟨g, cap, cur.setIfInBounds i u, fr, rfl, hb, ?_, by simpa using hfr, hnc, hcm, by simpa using hcs, ?_⟩
    · simp [World.setCell, Array.getElem?_modify, hgg]
    · rw [Array.toList_setIfInBounds, List.take_set, htake]

theorem OwnM.at_ {w : World} {base : Nat} {e : TypeId} {g n cap i : Nat} {xs : List Value} {u : Value} (h : OwnM w base e 1 (.slice (some ⟨g, 0, none⟩) n cap) n xs) (hi : i < n) (hu : xs[i]? = some u) :
    w.cell? ⟨g, i, none⟩ = some u ∧ w.frozen? ⟨g, i, none⟩ = false := by
  obtain ⟨g', cap', hv, _, _, _, _, hc, hf⟩ := h.cells (by omega)
  injection hv with h1 h2 h3
  injection h1 with h1
  injection h1 with h1
  subst h1
  exact ⟨hc i u hu, hf i (by omega)⟩
theorem byteVals_at (l : List UInt8) (i : Nat) (x : UInt8) (h : l[i]? = some x) : (byteVals l)[i]? = some (.int .u8 x.toNat) := by simp [byteVals, h]
theorem byteVals_set (l : List UInt8) (i : Nat) (x : UInt8) : (byteVals l).set i (.int .u8 x.toNat) = byteVals (l.set i x) := by simp [byteVals, List.map_set]

end Go.Proofs.YtldpcliahfiloaaGreat
set_option linter.unusedVariables false
set_option linter.unusedSimpArgs false
namespace Go.Proofs.YtldpcliahfiloaaGreat
open Go.RowKit

theorem and_mask (x : UInt8) (s : Nat) (h : s < 8) : bits .and .u8 (x.toNat : Int) (255 * 2 ^ s % 256) = ((UInt8.ofNat (x.toNat / 2 ^ s * 2 ^ s)).toNat : Int) := by
  have key : ∀ (y : Fin 256) (t : Fin 8), bits .and .u8 (y.val : Int) (255 * 2 ^ t.val % 256) = ((UInt8.ofNat (y.val / 2 ^ t.val * 2 ^ t.val)).toNat : Int) := by decide +kernel
  exact key ⟨x.toNat, x.toNat_lt⟩ ⟨s, h⟩

set_option maxHeartbeats 1000000 in
theorem masked_any (b : ByteArray) (N : Int) (w : World) (hb : b.size ≤ 1000000) (h0 : -1000000 ≤ N) (h1 : N ≤ 100000000) :
    Calls Tryz.prog 72 #[.string b, .int .i64 N] w fun e w' => e = .returned (.string (maskB b N)) ∧ Below w.heap.size w w' := by
  have hconv := run_bytes_of_string (P := Tryz.prog) w 9 104 5 b Tryz.underlying9 Tryz.underlying104 Tryz.underlying5
  have hown := OwnM.of_bytes w 5 b w.heap.size (Nat.le_refl _) (by unfold maxLen; omega)
  generalize hW : w.drew.alloc (.cells (bytesRow b (grownCap w b.size 0 5)) 5 ((bytesRow b (grownCap w b.size 0 5)).size, (bytesRow b (grownCap w b.size 0 5)).size + 1)) = W at hconv hown
  have HB : Hid (Below w.heap.size w W) := by
    show Below _ _ _
    rw [← hW]
    go_grown
  have HO := Lib.hid hown
  clear hown hW
  have hlen : b.data.toList.length = b.size := by rw [Array.length_toList]; rfl
  go_enter Tryz.func72, Tryz.ntmps72
  go_wp2_with fail
  go_loopw [12] (fun i wr => ∃ k : Nat, k ≤ b.size ∧ i = .int .i64 k ∧ OwnM wr w.heap.size 5 1 (.slice (some ⟨w.heap.size, 0, none⟩) b.size (grownCap w b.size 0 5)) b.size (byteVals (maskK b.data.toList N k)) ∧ Below w.heap.size w wr) (fun i _ => b.size + 1 - (intOf i).toNat)
  case atStart => exact ⟨0, Nat.zero_le _, rfl, by rw [maskK_zero]; exact HO.out, HB.out⟩
  case round =>
    obtain ⟨k, hk, rfl, ho, hbw⟩ := hrel
    have HO2 := Lib.hid ho
    have HB2 := Lib.hid hbw
    clear ho hbw HO HB hconv
    by_cases hlt : k < b.size
    · have hat := maskK_at b.data.toList N k (by omega)
      have HS := Lib.hid (maskK_succ b.data.toList N k (by omega))
      obtain ⟨hc, hf⟩ := HO2.out.at_ hlt (byteVals_at _ _ _ hat)
      generalize hx : b.data.toList[k] = x at hat HS hc
      have HAT := Lib.hid hat
      clear hat hx
      have hx1 := x.toNat_lt
      by_cases l0 : N - 8 * k ≤ 0
      · have HM : Hid (mval x (N - 8 * k) = 0) := by show _ = _; unfold mval; rw [if_pos l0]
        go_wp2_with fail
        refine ⟨⟨k + 1, by omega, by go_num, ?_, HB2.out.setCell (p := ⟨w.heap.size, k, none⟩) (Nat.le_refl _) _⟩, by simp [intOf]; omega⟩
        rw [HS.out, HM.out, ← byteVals_set]
        exact HO2.out.store hlt _
      · by_cases l8 : N - 8 * k < 8
        · have HM : Hid (mval x (N - 8 * k) = UInt8.ofNat (x.toNat / 2 ^ (8 - (N - 8 * k)).toNat * 2 ^ (8 - (N - 8 * k)).toNat)) := by show _ = _; unfold mval; rw [if_neg l0, if_pos l8]
          have q1 : ¬ (8 - (N - 8 * k) < 0) := by omega
          go_wp2_with fail
          go_region
          all_goals go_wp2_with fail
          refine ⟨⟨k + 1, by omega, by go_num, ?_, below_drewN (HB2.out.setCell (p := ⟨w.heap.size, k, none⟩) (Nat.le_refl _) _) 1⟩, by simp [intOf]; omega⟩
          rw [HS.out, HM.out, ← byteVals_set, and_mask x _ (by omega)]
          exact (HO2.out.store hlt _).drew
        · have HM : Hid (mval x (N - 8 * k) = x) := by show _ = _; unfold mval; rw [if_neg l0, if_neg l8]
          go_wp2_with fail
          refine ⟨⟨k + 1, by omega, by go_num, ?_, HB2.out⟩, by simp [intOf]; omega⟩
          have e : (maskK b.data.toList N k).set k x = maskK b.data.toList N k := by
            apply List.ext_getElem?
            intro i
            rw [List.getElem?_set]
            split
            · rename_i h
              subst h
              rw [HAT.out]
              split
              · rfl
              · rename_i h
                exact absurd (by rw [maskK_length]; omega) h
            · rfl
          rw [HS.out, HM.out, e]
          exact HO2.out
    · obtain rfl : b.size = k := by omega
      have hstr := run_string_m (P := Tryz.prog) wr 104 9 5 w.heap.size b.size _ (maskK b.data.toList N b.size) Tryz.underlying104 Tryz.underlying5 Tryz.underlying9 HO2.out
      go_wp2_with fail
      go_ret
      exact ⟨rfl, HB2.out⟩

end Go.Proofs.YtldpcliahfiloaaGreat
set_option linter.unusedVariables false
set_option linter.unusedSimpArgs false
namespace Go.Proofs.YtldpcliahfiloaaGreat
open Go.ChangeShapes Go.WideShapes Go.ChangeAt Go.RowKit Go.Deep

section
variable {H : Type} {enc : TypeId × Value → H} {P : Program} {w : World} {base : Nat} {spare : Nat → Bool} {held : Bool}
/-- a slice that came in: nil, or n elements of so many cells from an address on, each cell with what it reads as -/
def InRow (w : World) (A : Option Addr) (len cap size : Nat) (Q : Nat → Value → Prop) : Prop :=
  len ≤ cap ∧ cap ≤ maxLen ∧ (A = none → cap = 0) ∧ (0 < len → ∃ b off, A = some ⟨b, off, none⟩ ∧ b < w.heap.size ∧ ∀ i j, i < len → j < size → ∃ v, w.cell? ⟨b, off + i * size + j, none⟩ = some v ∧ Q j v)

theorem InRow.below {w w' : World} {A : Option Addr} {len cap size : Nat} {Q : Nat → Value → Prop} {B : Nat} (h : InRow w A len cap size Q) (hb : Below B w w') (hB : w.heap.size ≤ B) : InRow w' A len cap size Q := by
  refine ⟨h.1, h.2.1, h.2.2.1, fun hl => ?_⟩
  obtain ⟨b, off, rfl, hlt, hc⟩ := h.2.2.2 hl
  exact ⟨b, off, rfl, Nat.lt_of_lt_of_le hlt hb.size, fun i j hi hj => by
    obtain ⟨v, h1, h2⟩ := hc i j hi hj
    exact ⟨v, (hb.cell (p := ⟨b, _, none⟩) (Nat.lt_of_lt_of_le hlt hB)).trans h1, h2⟩⟩

theorem InRow.mono {w : World} {A : Option Addr} {len cap size : Nat} {Q Q' : Nat → Value → Prop} (h : InRow w A len cap size Q) (hq : ∀ j v, j < size → Q j v → Q' j v) : InRow w A len cap size Q' := by
  refine ⟨h.1, h.2.1, h.2.2.1, fun hl => ?_⟩
  obtain ⟨b, off, rfl, hlt, hc⟩ := h.2.2.2 hl
  exact ⟨b, off, rfl, hlt, fun i j hi hj => by
    obtain ⟨v, h1, h2⟩ := hc i j hi hj
    exact ⟨v, h1, hq j v hj h2⟩⟩
theorem InRow.at_ {w : World} {A : Option Addr} {len cap size : Nat} {Q : Nat → Value → Prop} (h : InRow w A len cap size Q) {i : Nat} (hi : i < len) :
    ∃ b off, A = some ⟨b, off, none⟩ ∧ b < w.heap.size ∧ ∀ j, j < size → ∃ v, w.cell? ⟨b, off + i * size + j, none⟩ = some v ∧ Q j v := by
  obtain ⟨b, off, rfl, hlt, hc⟩ := h.2.2.2 (by omega)
  exact ⟨b, off, rfl, hlt, fun j hj => hc i j hi hj⟩
/-- an int field's value, with its range -/
def IsI64 (v : Value) : Prop := ∃ n : Int, v = .int .i64 n ∧ -9223372036854775808 ≤ n ∧ n ≤ 9223372036854775807
def IsU64 (v : Value) : Prop := ∃ n : Int, v = .int .u64 n ∧ 0 ≤ n ∧ n < 18446744073709551616
def IsU32 (v : Value) : Prop := ∃ n : Int, v = .int .u32 n ∧ 0 ≤ n ∧ n < 4294967296
def IsBool (v : Value) : Prop := ∃ b : Bool, v = .bool b
section
variable {H : Type} {enc : TypeId × Value → H} {P : Program} {w : World} {base fuel : Nat} {spare : Nat → Bool} {held : Bool} {t : TypeId} {v : Value} {x : DataW H × List MemPlace}
theorem isI64 (ht : P.underlying t = some (.int .i64)) (h : DataW.trod enc P w base spare held fuel t [v] = some x) : IsI64 v := by
  obtain ⟨n, hc, _, hw⟩ := DataW.trod_int ht h
  simp only [List.cons.injEq, and_true] at hc
  refine ⟨n, hc, ?_⟩
  simpa [Lit.wf, IntKind.min, IntKind.max, IntKind.signed, IntKind.bits] using hw
theorem isU64 (ht : P.underlying t = some (.int .u64)) (h : DataW.trod enc P w base spare held fuel t [v] = some x) : IsU64 v := by
  obtain ⟨n, hc, _, hw⟩ := DataW.trod_int ht h
  simp only [List.cons.injEq, and_true] at hc
  have hw : 0 ≤ n ∧ n ≤ 18446744073709551615 := by simpa [Lit.wf, IntKind.min, IntKind.max, IntKind.signed, IntKind.bits] using hw
  exact ⟨n, hc, hw.1, by omega⟩
theorem isU32 (ht : P.underlying t = some (.int .u32)) (h : DataW.trod enc P w base spare held fuel t [v] = some x) : IsU32 v := by
  obtain ⟨n, hc, _, hw⟩ := DataW.trod_int ht h
  simp only [List.cons.injEq, and_true] at hc
  have hw : 0 ≤ n ∧ n ≤ 4294967295 := by simpa [Lit.wf, IntKind.min, IntKind.max, IntKind.signed, IntKind.bits] using hw
  exact ⟨n, hc, hw.1, by omega⟩
theorem isBool (ht : P.underlying t = some .bool) (h : DataW.trod enc P w base spare held fuel t [v] = some x) : IsBool v := by
  obtain ⟨n, hc, _⟩ := DataW.trod_bool ht h
  simp only [List.cons.injEq, and_true] at hc
  exact ⟨n, hc⟩
end

end
end Go.Proofs.YtldpcliahfiloaaGreat
