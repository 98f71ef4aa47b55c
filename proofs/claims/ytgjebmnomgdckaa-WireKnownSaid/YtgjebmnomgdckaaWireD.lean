/-
  Contracts of heraldref02 Take, Value, Number; of wire Number on too few bytes; of works. Conditions: none but sizes.
-/
import Derived.Test.YtgjebmnomgdckaaWireC
set_option linter.unusedVariables false
set_option linter.unusedSimpArgs false
namespace Go.Proofs.Ytgjebmnomgdckaa
open Go.RowKit

theorem rtake_ok (s : ByteArray) (n : Int) (w : World) (h0 : 0 ≤ n) (h1 : n ≤ s.size) (hm : (s.size : Int) ≤ 9223372036854775807) :
    Calls Try.prog 14 #[.string s, .int .i64 n] w fun e w' => e = .returned (.tuple #[.string (s.extract 0 n.toNat), .string (s.extract n.toNat s.size), .bool true]) ∧ ∃ q, w' = w.drewN q := by
  go_enter Try.func14, Try.ntmps14
  go_wp2
  go_quiet (fail)
  go_wp2
  go_ret3
  exact ⟨rfl, _, rfl⟩
theorem rtake_no (s : ByteArray) (n : Int) (w : World) (h1 : n < 0 ∨ s.size < n) (hm : (s.size : Int) ≤ 9223372036854775807) :
    Calls Try.prog 14 #[.string s, .int .i64 n] w fun e w' => e = .returned (.tuple #[.string ByteArray.empty, .string s, .bool false]) ∧ w' = w := by
  rcases h1 with h1 | h1
  · go_enter Try.func14, Try.ntmps14
    go_wp2
    go_ret3
    exact ⟨rfl, rfl⟩
  · have h0 : ¬ n < 0 := by omega
    go_enter Try.func14, Try.ntmps14
    go_wp2
    go_ret3
    exact ⟨rfl, rfl⟩

theorem rvalue_any (t : ByteArray) (w : World) (ht : t.size ≤ 8) :
    Calls Try.prog 25 #[.string t] w fun e w' => e = .returned (.int .u64 (beVal t.data.toList : Nat)) ∧ w' = w := by
  go_enter Try.func25, Try.ntmps25
  go_wp2
  go_loop [3, 4] (fun v i => ∃ k : Nat, k ≤ t.size ∧ i = .int .i64 k ∧ v = .int .u64 (beVal (t.data.toList.take k) : Nat)) (fun _ i => t.size - (intOf i).toNat)
  case atStart => exact ⟨0, Nat.zero_le _, rfl, by simp [beVal]⟩
  case round =>
    obtain ⟨k, hk, rfl, rfl⟩ := hrel
    by_cases hlt : k < t.size
    · have HS := Lib.hid (beVal_step t k hlt)
      have hv := beVal_at t k (by omega)
      have hc := t[k].toNat_lt
      go_wp2
      go_round
      case rel => exact ⟨k + 1, by omega, by go_num, by rw [HS.out]⟩
      case measure => simp [intOf]; omega
    · obtain rfl : t.size = k := by omega
      go_wp2
      go_ret
      exact ⟨ret_int (by rw [List.take_of_length_le (by simp)]), rfl⟩

theorem rnumber_ok (s : ByteArray) (n : Nat) (w : World) (h0 : 1 ≤ n) (h1 : n ≤ 8) (hs : n ≤ s.size) (hm : (s.size : Int) ≤ 9223372036854775807) :
    Calls Try.prog 16 #[.string s, .int .i64 n] w fun e w' => e = .returned (.tuple #[.int .u64 (beVal (s.data.toList.take n) : Nat), .string (s.extract n s.size), .bool true]) ∧ ∃ q, w' = w.drewN q := by
  have e1 : (s.extract 0 n).data.toList = s.data.toList.take n := by
    simp only [ByteArray.data_extract, Array.toList_extract, List.extract_eq_take_drop, List.drop_zero, Nat.sub_zero]
  have e2 : (s.extract 0 n).size ≤ 8 := by simp; omega
  have E1 := Lib.hid e1
  clear e1
  go_enter Try.func16, Try.ntmps16
  go_wp2_with fail
  go_quiet ((go_at_call 25; exact Calls.quiet_of_same (rvalue_any (s.extract 0 n) _ e2)))
  rw [E1.out]
  go_wp2_with fail
  go_ret3
  exact ⟨rfl, _, rfl⟩
theorem rnumber_no (s : ByteArray) (n : Int) (w : World) (h1 : n < 1 ∨ 8 < n ∨ s.size < n) (hm : (s.size : Int) ≤ 9223372036854775807) :
    Calls Try.prog 16 #[.string s, .int .i64 n] w fun e w' => e = .returned (.tuple #[.int .u64 0, .string s, .bool false]) ∧ w' = w := by
  by_cases ha : n < 1
  · go_enter Try.func16, Try.ntmps16
    go_wp2
    go_ret3
    exact ⟨rfl, rfl⟩
  · by_cases hb : 8 < n
    · go_enter Try.func16, Try.ntmps16
      go_wp2
      go_ret3
      exact ⟨rfl, rfl⟩
    · have hc : (s.size : Int) < n := by omega
      clear h1
      go_enter Try.func16, Try.ntmps16
      go_wp2
      go_ret3
      exact ⟨rfl, rfl⟩

theorem number_short (b : Nat) (s : ByteArray) (n : Nat) (w : World) (h : RdAt w b s) (h0 : 1 ≤ n) (h1 : n ≤ 8) (hs : s.size < n) (hm : (s.size : Int) ≤ 9223372036854775807) :
    Calls Try.prog 15 #[.pointer (some ⟨b, 0, none⟩), .int .i64 n] w fun e w' => e = .returned (.tuple #[.int .u64 0, .bool false]) ∧ RdAt w' b s ∧ w.grownBy w' (some b) := by
  have H := Lib.hid h
  clear h
  go_enter Try.func15, Try.ntmps15
  go_wp2_with fail
  refine (take_no b s _ _ H.out (by omega) hm).mono ?_
  rintro e w' ⟨rfl, rfl⟩
  go_wp2_with fail
  refine (sum_any _).mono ?_
  rintro e w1 ⟨rfl, rfl⟩
  go_wp2_with fail
  refine wp_loop_rounds 1 ?_
  rw [rounds_succ]
  go_wp2_with fail
  have hn := NumAt.new w' 0
  refine (value_any _ 0 _ hn.c).mono ?_
  rintro e w1 ⟨rfl, rfl⟩
  go_wp2_with fail
  go_ret2
  exact ⟨rfl, (Below.heap_alloc _ _ _ H.out.lt).trans H.out, World.grownBy_alloc _ _ _⟩

theorem putS_a : putS ⟨#[97]⟩ 258 2 2 = ⟨#[97, 1, 2]⟩ := by decide +kernel
theorem beVal_12 : beVal ((ByteArray.mk #[1, 2]).data.toList.take 2) = 258 := by decide +kernel

theorem works_any (w : World) : Calls Try.prog 11 #[] w fun e w' => e = .returned (.bool true) ∧ Below w.heap.size w w' := by
  go_enter Try.func11, Try.ntmps11
  go_wp2_with fail
  refine (put_ok _ 258 2 _ (by decide) (by omega) (by omega) (by omega) (by omega) (by decide +kernel)).mono ?_
  rintro e w1 ⟨rfl, hb1⟩
  rw [show (258 : Int).toNat = 258 from rfl, putS_a]
  have HB1 := Lib.hid hb1
  clear hb1
  go_wp2_with fail
  refine (new_any _ _).mono ?_
  rintro e w2 ⟨rfl, rfl⟩
  have hr : RdAt (w1.alloc (.cells #[.bool true, .string ⟨#[97, 1, 2]⟩] 55)) w1.heap.size ⟨#[97, 1, 2]⟩ := heap_alloc_new w1 _
  have hb2 : Below w.heap.size w (w1.alloc (.cells #[.bool true, .string ⟨#[97, 1, 2]⟩] 55)) := HB1.out.alloc HB1.out.size _
  have hz : w.heap.size ≤ w1.heap.size := HB1.out.size
  generalize w1.alloc (.cells #[.bool true, .string ⟨#[97, 1, 2]⟩] 55) = w2 at hr hb2 ⊢
  generalize w1.heap.size = r at hr hz ⊢
  clear HB1
  have HR := Lib.hid hr
  have HB2 := Lib.hid hb2
  clear hr hb2
  go_wp2_with fail
  refine (take_ok r _ 1 _ HR.out (by decide) (by decide) (by decide)).mono ?_
  rintro e w3 ⟨rfl, rfl⟩
  have e1 : ByteArray.extract ⟨#[97, 1, 2]⟩ 0 (1 : Int).toNat = ⟨#[97]⟩ := by decide +kernel
  have e2 : ByteArray.extract ⟨#[97, 1, 2]⟩ (1 : Int).toNat (ByteArray.mk #[97, 1, 2]).size = ⟨#[1, 2]⟩ := by decide +kernel
  rw [e1, e2]
  clear e1 e2
  have hr3 := HR.out.set ⟨#[1, 2]⟩
  have hb3 := HB2.out.setCell (p := ⟨r, 1, none⟩) hz (.string ⟨#[1, 2]⟩)
  generalize w2.setCell ⟨r, 1, none⟩ (.string ⟨#[1, 2]⟩) = w3 at hr3 hb3 ⊢
  have HR3 := Lib.hid hr3
  have HB3 := Lib.hid hb3
  clear hr3 hb3 HR HB2
  go_wp2_with fail
  refine (number_ok r _ 2 _ HR3.out (by decide) (by decide) (by decide) (by decide)).mono ?_
  rintro e w4 ⟨rfl, hr4, hg4⟩
  rw [beVal_12]
  have hb4 := HB3.out.grown hg4 HB3.out.size (fun k hk => by cases hk; exact hz)
  have HR4 := Lib.hid hr4
  have HB4 := Lib.hid hb4
  clear hr4 hg4 hb4 HR3 HB3
  go_wp2_with fail
  refine (left_any r _ _ HR4.out).mono ?_
  rintro e w5 ⟨rfl, rfl⟩
  go_wp2_with fail
  go_ret
  exact ⟨ret_bool (by decide +kernel), HB4.out⟩

end Go.Proofs.Ytgjebmnomgdckaa
