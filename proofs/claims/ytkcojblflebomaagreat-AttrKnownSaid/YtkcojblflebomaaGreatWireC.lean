/-
  Contracts of wire.Put and heraldref02.Put: a number is laid behind bytes, the highest byte first. Conditions: the bytes ahead take at most 2^46.
-/
import Derived.Test.YtkcojblflebomaaGreatWireB
import Derived.Test.YtkcojblflebomaaGreatOwn
import Derived.Test.YtkcojblflebomaaGreatShelf
set_option linter.unusedVariables false
set_option linter.unusedSimpArgs false
namespace Go.Proofs.YtkcojblflebomaaGreat
open Go.RowKit

theorem infoU8 : (Tryz.prog.info? 5).map (fun i => (i.zero, i.size, i.bytes)) = some (some (.int .u8 0), 1, 1) := by kernel_rfl

/-- the first k of size bytes of v, the highest first -/
def beB (v size k : Nat) : List UInt8 := (List.range k).map fun j => UInt8.ofNat (v / 2 ^ (8 * (size - 1 - j)))
theorem beB_succ (v size k : Nat) : beB v size (k + 1) = beB v size k ++ [UInt8.ofNat (v / 2 ^ (8 * (size - 1 - k)))] := by simp [beB, List.range_succ]
theorem beB_length (v size k : Nat) : (beB v size k).length = k := by simp [beB]

theorem byte_of (v : Int) (n : Nat) (v0 : 0 ≤ v) : v / 2 ^ n % 256 = ((UInt8.ofNat (v.toNat / 2 ^ n)).toNat : Int) := by
  obtain ⟨u, rfl⟩ := Int.eq_ofNat_of_zero_le v0
  rw [Int.toNat_natCast]
  have h : ((2 : Int) ^ n) = ((2 ^ n : Nat) : Int) := by simp
  rw [h, ← Int.natCast_ediv]
  simp

theorem beB_vals (l : List UInt8) (v : Int) (size k : Nat) (v0 : 0 ≤ v) :
    byteVals (l ++ beB v.toNat size k) ++ [Value.int .u8 (v / 2 ^ (8 * (size - 1 - k)) % 256)] = byteVals (l ++ beB v.toNat size (k + 1)) := by
  rw [beB_succ, byte_of v _ v0, ← List.append_assoc, byteVals_append (l ++ _)]
  rfl

/-- the bytes so far -/
def putS (b : ByteArray) (v size k : Nat) : ByteArray := b ++ ⟨(beB v size k).toArray⟩
theorem putS_size (b : ByteArray) (v size k : Nat) : (putS b v size k).size = b.size + k := by
  unfold putS
  rw [ByteArray.size_append]
  show _ + (beB v size k).toArray.size = _
  simp [beB_length]
theorem putS_succ (b : ByteArray) (v size k : Nat) : putS b v size k ++ ⟨[UInt8.ofNat (v / 2 ^ (8 * (size - 1 - k)))].toArray⟩ = putS b v size (k + 1) := by
  unfold putS
  rw [beB_succ]
  apply ByteArray.ext
  apply Array.ext'
  simp

theorem putS_zero (b : ByteArray) (v size : Nat) : putS b v size 0 = b := by
  unfold putS
  apply ByteArray.ext
  apply Array.ext'
  simp [beB]
theorem putS_list (b : ByteArray) (v size k : Nat) : ByteArray.mk (b.data.toList ++ beB v size k).toArray = putS b v size k := by
  unfold putS
  apply ByteArray.ext
  apply Array.ext'
  simp

set_option maxRecDepth 100000 in
theorem put_ok (b : ByteArray) (v : Int) (size : Nat) (w : World) (hb : b.size + 8 ≤ 140737488355328) (v0 : 0 ≤ v) (v1 : v < 18446744073709551616) (s0 : 1 ≤ size) (s1 : size ≤ 8) (hfit : Lib.bitLen v.toNat ≤ 8 * size) :
    Calls Tryz.prog 97 #[.string b, .int .u64 v, .int .i64 size] w fun e w' => e = .returned (.tuple #[.string (putS b v.toNat size size), .int .i64 0]) ∧ Below w.heap.size w w' := by
  obtain ⟨i0, hi, hz0, hz1, hz2⟩ := info_parts infoU8
  have hconv := run_bytes_of_string (P := Tryz.prog) w 9 56 5 b Tryz.underlying9 Tryz.underlying56 Tryz.underlying5
  have hown := OwnM.of_bytes w 5 b w.heap.size (Nat.le_refl _) (by unfold maxLen; omega)
  generalize hW : w.drew.alloc (.cells (bytesRow b (grownCap w b.size 0 5)) 5 ((bytesRow b (grownCap w b.size 0 5)).size, (bytesRow b (grownCap w b.size 0 5)).size + 1)) = W at hconv hown
  have HB : Hid (Below w.heap.size w W) := by rw [← hW]; exact ((Below.refl _ _).drew).alloc (Nat.le_refl _) _
  clear hW
  generalize grownCap w b.size 0 5 = c at hconv hown
  have HO := Lib.hid hown
  clear hown
  go_enter Tryz.func97, Tryz.ntmps97
  go_wp2_with fail
  refine (Tryz.bits_Len64 v _ v0 (by omega)).mono ?_
  rintro e w' ⟨rfl, rfl⟩
  have hf : (Lib.bitLen v.toNat : Int) ≤ 8 * size := by omega
  go_wp2_with fail
  clear hconv
  go_loopw [8, 9] (fun o i wr => ∃ k : Nat, k ≤ size ∧ i = .int .i64 ((size : Int) - 1 - k) ∧ OwnM wr w'.heap.size 5 1 o (b.size + k) (byteVals (b.data.toList ++ beB v.toNat size k)) ∧ Below w'.heap.size w' wr) (fun _ i _ => (intOf i + 1).toNat)
  case atStart => exact ⟨0, Nat.zero_le _, by go_num, by simpa [beB] using HO.out, HB.out⟩
  case round =>
    obtain ⟨k, hk, rfl, hn, hb2⟩ := hrel
    have HN := Lib.hid hn
    have HB2 := Lib.hid hb2
    clear hn hb2
    by_cases hlt : k < size
    · have q0 : 0 ≤ (size : Int) - 1 - k := by omega
      have hstep := Lib.hid (beB_vals b.data.toList v size k v0)
      go_wp2_with (at_builtin; refine wpList_append_m rfl (.tmp 31) (.tmp 37) 56 56 rfl w'.heap.size 5 i0 _ 1 1 Tryz.underlying56 hi hz0 hz1 hz2 rfl (by omega) u8 (b.size + k) _ rfl (HN.out.alloc _) _ 1 _ rfl (Src.one_new _ _ Tryz.underlying56 rfl) (by unfold maxLen; omega) (by omega) (by simp; have := HB2.out.size; omega) ?_; intro o' w1 hown1 hg1 hat1)
      rw [hstep.out] at hown1
      have hbw := (HN.out.alloc (.cells #[Value.int .u8 (v / 2 ^ (8 * (size - 1 - k)) % 256)] 5)).below_grown hg1 (HB2.out.alloc HB2.out.size _) (by simp; have := HB2.out.size; omega) (Nat.le_refl _)
      exact ⟨⟨k + 1, by omega, by go_num, hown1, hbw⟩, by simp [intOf]; omega⟩
    · obtain rfl : size = k := by omega
      have hstr := run_string_m (P := Tryz.prog) wr 56 9 5 _ _ _ _ Tryz.underlying56 Tryz.underlying5 Tryz.underlying9 HN.out
      go_wp2_with fail
      go_ret2
      exact ⟨ret2 (val_str (putS_list _ _ _ _)) rfl, HB2.out⟩

theorem put_bad (b : ByteArray) (v size : Int) (w : World) (h : size < 1 ∨ 8 < size) :
    Calls Tryz.prog 97 #[.string b, .int .u64 v, .int .i64 size] w fun e w' => e = .returned (.tuple #[.string ByteArray.empty, .int .i64 2]) ∧ w' = w := by
  rcases h with h | h
  · go_enter Tryz.func97, Tryz.ntmps97
    go_wp2
    go_ret2
    exact ⟨rfl, rfl⟩
  · have h0 : ¬ size < 1 := by omega
    go_enter Tryz.func97, Tryz.ntmps97
    go_wp2
    go_ret2
    exact ⟨rfl, rfl⟩

set_option maxRecDepth 100000 in
theorem put_long (b : ByteArray) (v : Int) (size : Nat) (w : World) (v0 : 0 ≤ v) (v1 : v < 18446744073709551616) (s0 : 1 ≤ size) (s1 : size ≤ 8) (hfit : 8 * size < Lib.bitLen v.toNat) :
    Calls Tryz.prog 97 #[.string b, .int .u64 v, .int .i64 size] w fun e w' => e = .returned (.tuple #[.string ByteArray.empty, .int .i64 3]) ∧ w' = w := by
  have hf : 8 * (size : Int) < (Lib.bitLen v.toNat : Int) := by omega
  go_enter Tryz.func97, Tryz.ntmps97
  go_wp2_with fail
  refine (Tryz.bits_Len64 v _ v0 (by omega)).mono ?_
  rintro e w' ⟨rfl, rfl⟩
  go_wp2_with fail
  go_ret2
  exact ⟨rfl, rfl⟩

/-- string([]byte{x}) -/
theorem run_str_one (w : World) (x : UInt8) (y : Int) (hy : y = x.toNat) :
    (convert 56 9 (.slice (some ⟨w.heap.size, 0, none⟩) 1 1)).run Tryz.prog (w.alloc (.cells #[.int .u8 y] 5)) = .ok (.string ⟨[x].toArray⟩) (w.alloc (.cells #[.int .u8 y] 5)) := by
  subst hy
  refine run_convert_bytes_back (P := Tryz.prog) _ 56 9 5 ⟨w.heap.size, 0, none⟩ 1 [x] Tryz.underlying56 Tryz.underlying5 Tryz.underlying9 (fun j hj => ?_)
  have : j = 0 := by simp at hj; omega
  subst this
  rw [add_flat, cell_of_row _ w.heap.size 0 _ _ _ (heap_alloc_new w _)]
  rfl

end Go.Proofs.YtkcojblflebomaaGreat
