/-
  Contracts of wire.Unhex and heraldref02.Unhex. Conditions: sizes.
-/
import Derived.Test.YtgjebmnomgdckaaHexB
set_option linter.unusedVariables false
set_option linter.unusedSimpArgs false
namespace Go.Proofs.Ytgjebmnomgdckaa
open Go.RowKit

def bAt (s : ByteArray) (i : Nat) : UInt8 := s.data.toList.getD i 0
theorem bAt_eq (s : ByteArray) (i : Nat) (h : i < s.size) : s[i] = bAt s i := by
  unfold bAt
  rw [List.getD_eq_getElem?_getD, List.getElem?_eq_getElem (by simpa using h)]
  rfl
/-- the j-th pair of digits is one -/
def okPair (s : ByteArray) (j : Nat) : Prop := undig (bAt s (2 * j)) < 16 ∧ undig (bAt s (2 * j + 1)) < 16
/-- the bytes of the first k pairs -/
def unhL (s : ByteArray) (k : Nat) : List UInt8 := (List.range k).map fun j => UInt8.ofNat (16 * undig (bAt s (2 * j)) + undig (bAt s (2 * j + 1)))
theorem unhL_succ (s : ByteArray) (k : Nat) : unhL s (k + 1) = unhL s k ++ [UInt8.ofNat (16 * undig (bAt s (2 * k)) + undig (bAt s (2 * k + 1)))] := by simp [unhL, List.range_succ]
theorem unhL_vals (s : ByteArray) (k : Nat) (h : okPair s k) : byteVals (unhL s k) ++ [.int .u8 (16 * (undig (bAt s (2 * k)) : Int) + (undig (bAt s (2 * k + 1)) : Int))] = byteVals (unhL s (k + 1)) := by
  rw [unhL_succ, byteVals_append]
  congr 1
  have h1 := h.1
  have h2 := h.2
  simp only [byteVals, List.map_cons, List.map_nil, UInt8.toNat_ofNat']
  congr 2
  omega

theorem or16 (a b : Nat) (ha : a < 16) (hb : b < 16) : bits .or .i64 ((a : Int) * 16) (b : Int) = 16 * (a : Int) + (b : Int) := by
  have h : ∀ x y : Fin 16, bits .or .i64 ((x.val : Int) * 16) (y.val : Int) = 16 * (x.val : Int) + (y.val : Int) := by decide +kernel
  exact h ⟨a, ha⟩ ⟨b, hb⟩

theorem unhex_odd (s : ByteArray) (w : World) (hs : s.size ≤ 4194304) (h : s.size % 2 = 1) :
    Calls Try.prog 19 #[.string s] w fun e w' => e = .returned (.tuple #[.string ByteArray.empty, .int .i64 4]) ∧ w' = w := by
  have h1 : (((s.size : Int) % 2) == 0) = false := by rw [beq_eq_false_iff_ne]; omega
  clear h
  go_enter Try.func19, Try.ntmps19
  go_wp2_with fail
  go_ret2
  exact ⟨rfl, rfl⟩
theorem runhex_odd (s : ByteArray) (w : World) (hs : s.size ≤ 4194304) (h : s.size % 2 = 1) :
    Calls Try.prog 20 #[.string s] w fun e w' => e = .returned (.tuple #[.string ByteArray.empty, .int .i64 4]) ∧ w' = w := by
  have h1 : (((s.size : Int) % 2) == 0) = false := by rw [beq_eq_false_iff_ne]; omega
  clear h
  go_enter Try.func20, Try.ntmps20
  go_wp2_with fail
  go_ret2
  exact ⟨rfl, rfl⟩

/-- what comes out: m pairs are good; if there are more, the next is not -/
def unhOut (s : ByteArray) (m n : Nat) : Value := if m = n then .tuple #[.string ⟨(unhL s n).toArray⟩, .int .i64 0] else .tuple #[.string ByteArray.empty, .int .i64 4]

theorem unhex_even (s : ByteArray) (w : World) (m n : Nat) (hs : s.size ≤ 4194304) (h : s.size = 2 * n) (hm : m ≤ n) (hok : ∀ j, j < m → okPair s j) (hbad : m < n → ¬ okPair s m) :
    Calls Try.prog 19 #[.string s] w fun e w' => e = .returned (unhOut s m n) ∧ Below w.heap.size w w' := by
  obtain ⟨i0, hi, hz0, hz1, hz2⟩ := info_parts infoU8
  have h1 : (((s.size : Int) % 2) == 0) = true := by rw [beq_iff_eq]; omega
  have h1' : (((s.size : Int) % 2) != 0) = false := by rw [bne, h1]; rfl
  have hmk : ∀ u : World, (Instr.makeSlice 52 (.int .i64 0) (.int .i64 ((s.size : Int) / 2))).run Try.prog u =
      .ok (.slice (some ⟨u.heap.size, 0, none⟩) 0 (s.size / 2)) (u.alloc (.cells (madeCells #[.int .u8 0] (s.size / 2)) 5)) := fun u => by
    have h := run_make (P := Try.prog) u 52 5 i0 (.int .u8 0) Try.underlying52 hi hz0 .i64 .i64 0 ((s.size : Int) / 2) (by omega) (by omega) (by rw [hz2]; omega) (by omega)
    have e : ((s.size : Int) / 2).toNat = s.size / 2 := by omega
    rw [e] at h
    simpa [hz1, Value.cells] using h
  have hnn : s.size / 2 ≤ maxLen := by unfold maxLen; omega
  have HNN := Lib.hid hnn
  have hnb : n ≤ 2097152 := by omega
  have HS := Lib.hid h
  have HOK := Lib.hid hok
  have HBAD := Lib.hid hbad
  clear h hok hbad hnn
  go_enter Try.func19, Try.ntmps19
  go_wp2_with fail
  have hown : OwnM (w.alloc (.cells (madeCells #[.int .u8 0] (s.size / 2)) 5)) w.heap.size 5 1 (.slice (some ⟨w.heap.size, 0, none⟩) 0 (s.size / 2)) 0 [] :=
    OwnM.of_own (World.ownsRow_made w _ _ (Nat.le_refl _) HNN.out (by rw [size_madeCells]; omega))
  have HO := Lib.hid hown
  have hb0 : Below w.heap.size w (w.alloc (.cells (madeCells #[.int .u8 0] (s.size / 2)) 5)) := (Below.refl _ _).alloc (Nat.le_refl _) _
  have HB0 := Lib.hid hb0
  clear hown hb0 hmk
  go_loopw [4, 5] (fun o i wr => ∃ k q : Nat, k ≤ m ∧ q = 2 * k ∧ i = .int .i64 q ∧ OwnM wr w.heap.size 5 1 o k (byteVals (unhL s k)) ∧ Below w.heap.size w wr) (fun _ i _ => s.size - (intOf i).toNat)
  case atStart => exact ⟨0, 0, Nat.zero_le _, rfl, rfl, HO.out, HB0.out⟩
  case round =>
    obtain ⟨k, q, hk, hq, rfl, hn, hb2⟩ := hrel
    have HN := Lib.hid hn
    have HB2 := Lib.hid hb2
    have HQ := Lib.hid hq
    clear hn hb2 hq
    by_cases hlt : k < n
    · have q1 : q < s.size := by have := HQ.out; have := HS.out; omega
      have q2 : q + 1 < s.size := by have := HQ.out; have := HS.out; omega
      have i1 : (0 : Int) ≤ (q : Int) := by omega
      have i2 : (q : Int) < (s.size : Int) := by omega
      have i3 : (0 : Int) ≤ (q : Int) + 1 := by omega
      have i4 : (q : Int) + 1 < (s.size : Int) := by omega
      have wq : IntKind.i64.wrap ((q : Int) + 1) = (q : Int) + 1 := IntWalk.i64_in _ ⟨by omega, by omega⟩
      have tq : ((q : Int) + 1).toNat = q + 1 := by omega
      have hq1 : s[q] = bAt s (2 * k) := by rw [bAt_eq s q q1, HQ.out]
      have hq2 : s[q + 1] = bAt s (2 * k + 1) := by rw [bAt_eq s (q + 1) q2, HQ.out]
      go_wp2_with fail
      go_quiet ((go_at_call 26; exact Calls.quiet_of_same (ib_any _ _)))
      clear wq tq hq1 hq2 i1 i2 i3 i4
      by_cases hkm : k < m
      · have hp := HOK.out k hkm
        have hv := unhL_vals s k hp
        have hp1 := hp.1
        have hp2 := hp.2
        have e1 : undigI (bAt s (2 * k)) = ((undig (bAt s (2 * k)) : Nat) : Int) := by unfold undigI; rw [if_pos hp1]
        have e2 : undigI (bAt s (2 * k + 1)) = ((undig (bAt s (2 * k + 1)) : Nat) : Int) := by unfold undigI; rw [if_pos hp2]
        rw [e1, e2]
        clear e1 e2 hp
        generalize undig (bAt s (2 * k)) = a at hv hp1 ⊢
        generalize undig (bAt s (2 * k + 1)) = b at hv hp2 ⊢
        have HV := Lib.hid hv
        clear hv
        have hor := or16 a b hp1 hp2
        go_wp2_with (at_builtin; refine wpList_append_m rfl (.tmp 37) (.tmp 43) 52 52 rfl w.heap.size 5 i0 _ 1 1 Try.underlying52 hi hz0 hz1 hz2 rfl (by omega) u4 k _ rfl (HN.out.alloc _) _ 1 [.int .u8 (16 * (a : Int) + (b : Int))] rfl (Src.one_new _ _ Try.underlying52 rfl) (by unfold maxLen; omega) (by omega) (by simp; have := HB2.out.size; omega) ?_; intro o' w1 hown1 hg1 hat1)
        rw [HV.out] at hown1
        have hbw := OwnM.below_grown (w := (wr.drewN nq).alloc (.cells #[Value.int .u8 (16 * (a : Int) + (b : Int))] 5)) (HN.out.alloc _) hg1 ((below_drewN HB2.out nq).alloc HB2.out.size _) (by simp; have := HB2.out.size; omega) (Nat.le_refl _)
        exact ⟨⟨k + 1, q + 2, by omega, by have := HQ.out; omega, by go_num, hown1, hbw⟩, by simp [intOf]; omega⟩
      · obtain rfl : k = m := by omega
        have hnot := HBAD.out hlt
        by_cases hp1 : undig (bAt s (2 * k)) < 16
        · have hp2 : ¬ undig (bAt s (2 * k + 1)) < 16 := fun h => hnot ⟨hp1, h⟩
          have e1 : undigI (bAt s (2 * k)) = ((undig (bAt s (2 * k)) : Nat) : Int) := by unfold undigI; rw [if_pos hp1]
          have e2 : undigI (bAt s (2 * k + 1)) = -1 := by unfold undigI; rw [if_neg hp2]
          rw [e1, e2]
          clear e1 e2 hnot hp2
          generalize undig (bAt s (2 * k)) = a at hp1 ⊢
          go_wp2_with fail
          go_ret2
          refine ⟨?_, below_drewN HB2.out nq⟩
          rw [unhOut, if_neg (by omega)]
          rfl
        · have e1 : undigI (bAt s (2 * k)) = -1 := by unfold undigI; rw [if_neg hp1]
          rw [e1]
          generalize undigI (bAt s (2 * k + 1)) = z
          clear e1 hnot hp1
          go_wp2_with fail
          go_ret2
          refine ⟨?_, below_drewN HB2.out nq⟩
          rw [unhOut, if_neg (by omega)]
          rfl
    · obtain rfl : k = n := by omega
      obtain rfl : k = m := by omega
      have q1 : (s.size : Int) ≤ (q : Int) := by have := HQ.out; have := HS.out; omega
      have hstr := run_string_m (P := Try.prog) wr 52 9 5 _ _ _ _ Try.underlying52 Try.underlying5 Try.underlying9 HN.out
      go_wp2_with fail
      go_ret2
      refine ⟨?_, HB2.out⟩
      rw [unhOut, if_pos rfl]
      rfl

theorem runhex_even (s : ByteArray) (w : World) (m n : Nat) (hs : s.size ≤ 4194304) (h : s.size = 2 * n) (hm : m ≤ n) (hok : ∀ j, j < m → okPair s j) (hbad : m < n → ¬ okPair s m) :
    Calls Try.prog 20 #[.string s] w fun e w' => e = .returned (unhOut s m n) ∧ Below w.heap.size w w' := by
  obtain ⟨i0, hi, hz0, hz1, hz2⟩ := info_parts infoU8
  have h1 : (((s.size : Int) % 2) == 0) = true := by rw [beq_iff_eq]; omega
  have h1' : (((s.size : Int) % 2) != 0) = false := by rw [bne, h1]; rfl
  have hnb : n ≤ 2097152 := by omega
  have HS := Lib.hid h
  have HOK := Lib.hid hok
  have HBAD := Lib.hid hbad
  clear h hok hbad
  go_enter Try.func20, Try.ntmps20
  go_wp2_with fail
  go_loopw [4, 5] (fun o i wr => ∃ k q : Nat, k ≤ m ∧ q = 2 * k ∧ i = .int .i64 q ∧ OwnM wr w.heap.size 5 1 o k (byteVals (unhL s k)) ∧ Below w.heap.size w wr) (fun _ i _ => s.size - (intOf i).toNat)
  case atStart => exact ⟨0, 0, Nat.zero_le _, rfl, rfl, OwnM.nil _ _ _ _, Below.refl _ _⟩
  case round =>
    obtain ⟨k, q, hk, hq, rfl, hn, hb2⟩ := hrel
    have HN := Lib.hid hn
    have HB2 := Lib.hid hb2
    have HQ := Lib.hid hq
    clear hn hb2 hq
    by_cases hlt : k < n
    · have q1 : q < s.size := by have := HQ.out; have := HS.out; omega
      have q2 : q + 1 < s.size := by have := HQ.out; have := HS.out; omega
      have hq1 : s[q] = bAt s (2 * k) := by rw [bAt_eq s q q1, HQ.out]
      have hq2 : s[q + 1] = bAt s (2 * k + 1) := by rw [bAt_eq s (q + 1) q2, HQ.out]
      have hu1 := undig_le (bAt s (2 * k))
      have hu2 := undig_le (bAt s (2 * k + 1))
      go_wp2_with fail
      refine (digit_any _ _).mono ?_
      rintro e w1 ⟨rfl, rfl⟩
      go_wp2_with fail
      refine (digit_any _ _).mono ?_
      rintro e w1 ⟨rfl, rfl⟩
      clear hq1 hq2
      by_cases hkm : k < m
      · have hp := HOK.out k hkm
        have hv := unhL_vals s k hp
        have hp1 := hp.1
        have hp2 := hp.2
        clear hp
        generalize undig (bAt s (2 * k)) = a at hv hp1 hu1 ⊢
        generalize undig (bAt s (2 * k + 1)) = b at hv hp2 hu2 ⊢
        have HV := Lib.hid hv
        clear hv
        go_wp2_with (at_builtin; refine wpList_append_m rfl (.tmp 33) (.tmp 38) 52 52 rfl w.heap.size 5 i0 _ 1 1 Try.underlying52 hi hz0 hz1 hz2 rfl (by omega) u4 k _ rfl (HN.out.alloc _) _ 1 [.int .u8 (16 * (a : Int) + (b : Int))] rfl (Src.one_new _ _ Try.underlying52 rfl) (by unfold maxLen; omega) (by omega) (by simp; have := HB2.out.size; omega) ?_; intro o' w1 hown1 hg1 hat1)
        rw [HV.out] at hown1
        have hbw := (HN.out.alloc (.cells #[Value.int .u8 (16 * (a : Int) + (b : Int))] 5)).below_grown hg1 (HB2.out.alloc HB2.out.size _) (by simp; have := HB2.out.size; omega) (Nat.le_refl _)
        exact ⟨⟨k + 1, q + 2, by omega, by have := HQ.out; omega, by go_num, hown1, hbw⟩, by simp [intOf]; omega⟩
      · obtain rfl : k = m := by omega
        have hnot := HBAD.out hlt
        by_cases hp1 : undig (bAt s (2 * k)) < 16
        · have hp2 : ¬ undig (bAt s (2 * k + 1)) < 16 := fun h => hnot ⟨hp1, h⟩
          clear hnot
          generalize undig (bAt s (2 * k)) = a at hp1 hu1 ⊢
          generalize undig (bAt s (2 * k + 1)) = b at hp2 hu2 ⊢
          go_wp2_with fail
          go_ret2
          refine ⟨?_, HB2.out⟩
          rw [unhOut, if_neg (by omega)]
          rfl
        · clear hnot
          generalize undig (bAt s (2 * k)) = a at hp1 hu1 ⊢
          generalize undig (bAt s (2 * k + 1)) = b at hu2 ⊢
          go_wp2_with fail
          go_ret2
          refine ⟨?_, HB2.out⟩
          rw [unhOut, if_neg (by omega)]
          rfl
    · obtain rfl : k = n := by omega
      obtain rfl : k = m := by omega
      have q1 : (s.size : Int) ≤ (q : Int) := by have := HQ.out; have := HS.out; omega
      have hstr := run_string_m (P := Try.prog) wr 52 9 5 _ _ _ _ Try.underlying52 Try.underlying5 Try.underlying9 HN.out
      go_wp2_with fail
      go_ret2
      refine ⟨?_, HB2.out⟩
      rw [unhOut, if_pos rfl]
      rfl

/-- both Unhexes hand back the same -/
theorem unhex_same (s : ByteArray) (hs : s.size ≤ 4194304) :
    ∃ (r : ByteArray) (n : Int), (∀ w : World, Calls Try.prog 19 #[.string s] w fun e w' => e = .returned (.tuple #[.string r, .int .i64 n]) ∧ Below w.heap.size w w') ∧
      (∀ w : World, Calls Try.prog 20 #[.string s] w fun e w' => e = .returned (.tuple #[.string r, .int .i64 n]) ∧ Below w.heap.size w w') := by
  by_cases hodd : s.size % 2 = 1
  · exact ⟨_, _, fun w => (unhex_odd s w hs hodd).mono fun e w' ⟨h1, h2⟩ => ⟨h1, h2 ▸ Below.refl _ _⟩, fun w => (runhex_odd s w hs hodd).mono fun e w' ⟨h1, h2⟩ => ⟨h1, h2 ▸ Below.refl _ _⟩⟩
  · have hn : s.size = 2 * (s.size / 2) := by omega
    have hmin : ∀ n, ∃ m, m ≤ n ∧ (∀ j, j < m → okPair s j) ∧ (m < n → ¬ okPair s m) := by
      intro n
      induction n with
      | zero => exact ⟨0, Nat.le_refl _, fun j h => absurd h (by omega), fun h => absurd h (by omega)⟩
      | succ n ih =>
        obtain ⟨m, h1, h2, h3⟩ := ih
        by_cases hmn : m < n
        · exact ⟨m, by omega, h2, fun _ => h3 hmn⟩
        · obtain rfl : m = n := by omega
          by_cases hp : okPair s m
          · refine ⟨m + 1, by omega, fun j hj => ?_, fun h => absurd h (by omega)⟩
            rcases Nat.lt_or_ge j m with h | h
            · exact h2 j h
            · obtain rfl : j = m := by omega
              exact hp
          · exact ⟨m, by omega, h2, fun _ => hp⟩
    obtain ⟨m, h1, h2, h3⟩ := hmin (s.size / 2)
    by_cases hall : m = s.size / 2
    · have e0 : unhOut s m (s.size / 2) = .tuple #[.string ⟨(unhL s (s.size / 2)).toArray⟩, .int .i64 0] := by rw [unhOut, if_pos hall]
      exact ⟨_, _, fun w => (unhex_even s w m _ hs hn h1 h2 h3).mono fun e w' ⟨e1, e2⟩ => ⟨by rw [e1, e0], e2⟩, fun w => (runhex_even s w m _ hs hn h1 h2 h3).mono fun e w' ⟨e1, e2⟩ => ⟨by rw [e1, e0], e2⟩⟩
    · have e0 : unhOut s m (s.size / 2) = .tuple #[.string ByteArray.empty, .int .i64 4] := by rw [unhOut, if_neg hall]
      exact ⟨_, _, fun w => (unhex_even s w m _ hs hn h1 h2 h3).mono fun e w' ⟨e1, e2⟩ => ⟨by rw [e1, e0], e2⟩, fun w => (runhex_even s w m _ hs hn h1 h2 h3).mono fun e w' ⟨e1, e2⟩ => ⟨by rw [e1, e0], e2⟩⟩

end Go.Proofs.Ytgjebmnomgdckaa
