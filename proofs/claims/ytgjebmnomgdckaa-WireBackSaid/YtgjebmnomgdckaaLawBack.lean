/-
  WireBack: for every bytes ahead and numbers the law answers true. Conditions: none of its own.
-/
import Derived.Test.YtgjebmnomgdckaaLawReads
import Derived.Test.YtgjebmnomgdckaaLawPuts
import Derived.SizedLaws
set_option linter.unusedVariables false
set_option linter.unusedSimpArgs false
namespace Go.Proofs.Ytgjebmnomgdckaa
open Go.RowKit
open Go.ChangeShapes Go.WideShapes Go.ChangeAt
open Go.ChangeMaps (open_string shut_string)

/-- the bytes of a number, as a number -/
theorem beVal_beB (v size : Nat) (hv : v < 2 ^ (8 * size)) : ∀ k, k ≤ size → beVal (beB v size k) = v / 2 ^ (8 * (size - k)) := by
  intro k
  induction k with
  | zero =>
    intro _
    rw [Nat.sub_zero, Nat.div_eq_of_lt hv]
    simp [beB, beVal]
  | succ k ih =>
    intro hk
    rw [beB_succ, beVal_snoc, ih (by omega)]
    have e1 : size - k = (size - 1 - k) + 1 := by omega
    have e2 : size - (k + 1) = size - 1 - k := by omega
    rw [e1, e2, Nat.mul_add, Nat.mul_one, Nat.pow_add, ← Nat.div_div_eq_div_mul]
    have e3 : (2 : Nat) ^ 8 = 256 := by decide
    rw [e3]
    have e4 : (UInt8.ofNat (v / 2 ^ (8 * (size - 1 - k)))).toNat = v / 2 ^ (8 * (size - 1 - k)) % 256 := by simp
    rw [e4]
    omega
theorem beVal_whole (v size : Nat) (hv : v < 2 ^ (8 * size)) : beVal (beB v size size) = v := by
  rw [beVal_beB v size hv size (Nat.le_refl _)]
  simp

/-- the bytes of n numbers, one behind the other -/
def catB (V : Nat → Nat) (Z : Nat → Nat) : Nat → List UInt8
  | 0 => []
  | k + 1 => catB V Z k ++ beB (V k) (Z k) (Z k)
/-- .. from the k-th on, m of them -/
def catF (V : Nat → Nat) (Z : Nat → Nat) (k : Nat) : Nat → List UInt8
  | 0 => []
  | m + 1 => beB (V k) (Z k) (Z k) ++ catF V Z (k + 1) m
theorem catF_eq (V Z : Nat → Nat) : ∀ m k, catB V Z k ++ catF V Z k m = catB V Z (k + m)
  | 0, k => by simp [catF]
  | m + 1, k => by
    rw [catF, ← List.append_assoc, show k + (m + 1) = (k + 1) + m by omega, ← catF_eq V Z m (k + 1)]
    rfl
theorem catB_length (V Z : Nat → Nat) (hZ : ∀ i, Z i ≤ 8) : ∀ k, (catB V Z k).length ≤ 8 * k
  | 0 => by simp [catB]
  | k + 1 => by
    rw [catB, List.length_append, beB_length]
    have := catB_length V Z hZ k
    have := hZ k
    omega
theorem catF_length (V Z : Nat → Nat) (hZ : ∀ i, Z i ≤ 8) : ∀ m k, (catF V Z k m).length ≤ 8 * m
  | 0, k => by simp [catF]
  | m + 1, k => by
    rw [catF, List.length_append, beB_length]
    have := catF_length V Z hZ m (k + 1)
    have := hZ k
    omega

/-- the cells of a row, by functions -/
theorem InRow.fn {w : World} {A : Option Addr} {len cap size : Nat} {Q : Nat → Value → Prop} (h : InRow w A len cap size Q) :
    ∃ f : Nat → Nat → Value, (∀ i, i < len → ∃ b off, A = some ⟨b, off, none⟩ ∧ b < w.heap.size ∧ ∀ j, j < size → w.cell? ⟨b, off + i * size + j, none⟩ = some (f i j)) ∧ ∀ i j, i < len → j < size → Q j (f i j) := by
  by_cases hl : 0 < len
  · obtain ⟨b, off, rfl, hlt, hc⟩ := h.2.2.2 hl
    refine ⟨fun i j => if hh : i < len ∧ j < size then Classical.choose (hc i j hh.1 hh.2) else .nilIface, fun i hi => ⟨b, off, rfl, hlt, fun j hj => ?_⟩, fun i j hi hj => ?_⟩
    · have hh : i < len ∧ j < size := ⟨hi, hj⟩
      simp only [hh, and_self, dite_true]
      exact (Classical.choose_spec (hc i j hh.1 hh.2)).1
    · have hh : i < len ∧ j < size := ⟨hi, hj⟩
      simp only [hh, and_self, dite_true]
      exact (Classical.choose_spec (hc i j hh.1 hh.2)).2
  · exact ⟨fun _ _ => .nilIface, fun i hi => absurd hi (by omega), fun i j hi _ => absurd hi (by omega)⟩

/-- the size that the law makes of a number -/
def bsz (z : Int) : Int := 1 + (wrap64 (z.tmod 8 + 8)).tmod 8
/-- .. in the walk's own steps -/
theorem bsz_steps (z : Int) : ∃ (r : Int) (m : Nat), z.tmod 8 = r ∧ -8 < r ∧ r < 8 ∧ (r + 8) % 8 = (m : Int) ∧ r % 8 = (m : Int) ∧ m ≤ 7 ∧ bsz z = 1 + (m : Int) := by
  have h1 := Int.tmod_lt_of_pos z (show (0 : Int) < 8 by omega)
  have h2 := Int.lt_tmod_of_pos z (show (0 : Int) < 8 by omega)
  have h3 : 0 ≤ (z.tmod 8 + 8) % 8 := by omega
  obtain ⟨m, hm⟩ := Int.eq_ofNat_of_zero_le h3
  refine ⟨_, m, rfl, by omega, by omega, hm, by omega, by omega, ?_⟩
  unfold bsz
  have h4 : wrap64 (z.tmod 8 + 8) = z.tmod 8 + 8 := IntWalk.wrap64_in _ ⟨by omega, by omega⟩
  rw [h4, Int.tmod_eq_emod_of_nonneg (by omega), hm]
theorem bsz_in (z : Int) : 1 ≤ bsz z ∧ bsz z ≤ 8 := by
  unfold bsz
  have h1 : wrap64 (z.tmod 8 + 8) = z.tmod 8 + 8 := by
    have := Int.tmod_lt_of_pos z (show (0 : Int) < 8 by omega)
    have := Int.lt_tmod_of_pos z (show (0 : Int) < 8 by omega)
    exact IntWalk.wrap64_in _ ⟨by omega, by omega⟩
  rw [h1]
  have := Int.lt_tmod_of_pos z (show (0 : Int) < 8 by omega)
  rw [Int.tmod_eq_emod_of_nonneg (by omega)]
  omega

theorem put_okI (b : ByteArray) (v size : Int) (w : World) (hb : b.size + 8 ≤ 140737488355328) (s0 : 1 ≤ size) (s1 : size ≤ 8) (v0 : 0 ≤ v) (v1 : v.toNat < 2 ^ (8 * size.toNat)) :
    Calls Try.prog 9 #[.string b, .int .u64 v, .int .i64 size] w fun e w' => e = .returned (.tuple #[.string (putS b v.toNat size.toNat size.toNat), .int .i64 0]) ∧ Below w.heap.size w w' := by
  obtain ⟨n, rfl⟩ := Int.eq_ofNat_of_zero_le (show 0 ≤ size by omega)
  rw [Int.toNat_natCast] at v1 ⊢
  have h64 : v.toNat < 18446744073709551616 := Nat.lt_of_lt_of_le v1 (by
    have : 2 ^ (8 * n) ≤ 2 ^ 64 := Nat.pow_le_pow_right (by omega) (by omega)
    simpa using this)
  exact put_ok b v n w hb v0 (by omega) (by omega) (by omega) ((bitLen_iff v.toNat (8 * n) h64 (by omega)).2 v1)
theorem number_okI (b : Nat) (s : ByteArray) (n : Int) (w : World) (h : RdAt w b s) (h0 : 1 ≤ n) (h1 : n ≤ 8) (hs : n ≤ s.size) (hm : (s.size : Int) ≤ 9223372036854775807) :
    Calls Try.prog 15 #[.pointer (some ⟨b, 0, none⟩), .int .i64 n] w fun e w' => e = .returned (.tuple #[.int .u64 (beVal (s.data.toList.take n.toNat) : Nat), .bool true]) ∧
      RdAt w' b (s.extract n.toNat s.size) ∧ w.grownBy w' (some b) := by
  obtain ⟨k, rfl⟩ := Int.eq_ofNat_of_zero_le (show 0 ≤ n by omega)
  rw [Int.toNat_natCast]
  exact number_ok b s k w h (by omega) (by omega) (by omega) hm

theorem toNat_mod (v : Int) (p : Nat) (h : 0 ≤ v) : (v % (p : Int)).toNat = v.toNat % p := by
  obtain ⟨u, rfl⟩ := Int.eq_ofNat_of_zero_le h
  rw [← Int.natCast_emod, Int.toNat_natCast, Int.toNat_natCast]
theorem bytes_front (t : ByteArray) (a b : List UInt8) (n : Nat) (h : t.data.toList = a ++ b) (hn : a.length = n) : t.extract 0 n = ⟨a.toArray⟩ := by
  apply ByteArray.ext
  apply Array.ext'
  simp only [ByteArray.data_extract, Array.toList_extract, List.extract_eq_take_drop, List.drop_zero, Nat.sub_zero, h]
  subst hn
  simp
theorem bytes_back (t : ByteArray) (a b : List UInt8) (n : Nat) (h : t.data.toList = a ++ b) (hn : a.length = n) : t.extract n t.size = ⟨b.toArray⟩ := by
  have hs : t.size = a.length + b.length := by
    have : t.data.toList.length = t.size := by simp
    rw [← this, h, List.length_append]
  apply ByteArray.ext
  apply Array.ext'
  simp only [ByteArray.data_extract, Array.toList_extract, List.extract_eq_take_drop, h]
  subst hn
  rw [hs]
  simp

/-- 1 << 8*size, where it fits -/
theorem shl_fits (m : Nat) (h : m < 7) : ∃ M : Int, IntKind.u64.wrap (2 ^ (8 * (1 + m))) = M ∧ 1 ≤ M ∧ M = ((2 ^ (8 * (1 + m)) : Nat) : Int) := by
  refine ⟨_, rfl, ?_, ?_⟩
  all_goals
    rw [IntKind.wrap_u64]
    have h1 : 2 ^ (8 * (1 + m)) ≤ 2 ^ 56 := Nat.pow_le_pow_right (by omega) (by omega)
    have h2 : (2 : Nat) ^ 56 = 72057594037927936 := by decide
    have h3 : 0 < 2 ^ (8 * (1 + m)) := Nat.pow_pos (by omega)
    have h4 : ((2 : Int) ^ (8 * (1 + m))) = ((2 ^ (8 * (1 + m)) : Nat) : Int) := by simp
    rw [h4]
    omega

set_option maxRecDepth 100000 in
theorem wireBack_walk (s : ByteArray) (A : Option Addr) (len cap : Nat) (w : World) (hs : s.size ≤ 140737488351232) (hr : InRow w A len cap 2 (fun j v => if j = 0 then IsU64 v else IsI64 v)) :
    Calls Try.prog 5 #[.string s, .slice A len cap] w fun e w' => e = .returned (.bool true) ∧ Below w.heap.size w w' := by
  have hlc := hr.1
  have hcm := hr.2.1
  unfold maxLen at hcm
  obtain ⟨f, hcell, hq⟩ := hr.fn
  have HC := Lib.hid hcell
  have HQ := Lib.hid hq
  clear hcell hq hr
  go_enter Try.func5, Try.ntmps5
  go_wp2_with fail
  refine (works_any _).mono ?_
  rintro e w1 ⟨rfl, hb1⟩
  have HB1 := Lib.hid hb1
  clear hb1
  go_wp2_with fail
  obtain ⟨n, hn⟩ : ∃ n, n = (min (len : Int) 50).toNat := ⟨_, rfl⟩
  rw [← hn]
  have hn1 : n ≤ len := by omega
  have hn2 : n ≤ 50 := by omega
  clear hn
  obtain ⟨V, hV⟩ : ∃ V : Nat → Nat, ∀ i, V i = if bsz (intOf (f i 1)) < 8 then (intOf (f i 0)).toNat % 2 ^ (8 * (bsz (intOf (f i 1))).toNat) else (intOf (f i 0)).toNat := ⟨_, fun _ => rfl⟩
  obtain ⟨Z, hZ⟩ : ∃ Z : Nat → Nat, ∀ i, Z i = (bsz (intOf (f i 1))).toNat := ⟨_, fun _ => rfl⟩
  have hZ8 : ∀ i, Z i ≤ 8 := fun i => by rw [hZ]; have := bsz_in (intOf (f i 1)); omega
  have HV := Lib.hid hV
  have HZ := Lib.hid hZ
  have HZ8 := Lib.hid hZ8
  clear hV hZ hZ8
  go_loopw [5, 6] (fun l i wr => ∃ (k : Nat) (t : ByteArray), k ≤ n ∧ t.size ≤ 140737488351232 + 8 * k ∧ t.data.toList = s.data.toList ++ catB V Z k ∧ i = .int .i64 k ∧ l = .string t ∧ Below w.heap.size w wr) (fun _ i _ => 101 - (intOf i).toNat)
  case atStart => exact ⟨0, s, Nat.zero_le _, by omega, by simp [catB], rfl, rfl, HB1.out⟩
  case round =>
    obtain ⟨k, t, hk, ht, htl, rfl, rfl, hbw⟩ := hrel
    have HBW := Lib.hid hbw
    have HTL := Lib.hid htl
    clear hbw htl
    by_cases hlt : k < n
    · obtain ⟨b, off, rfl, hbl, hc⟩ := HC.out k (by omega)
      have hq0 := HQ.out k 0 (by omega) (by omega)
      have hq1 := HQ.out k 1 (by omega) (by omega)
      simp only [if_true, if_false, Nat.one_ne_zero] at hq0 hq1
      obtain ⟨v, ev, v0, v1⟩ := hq0
      obtain ⟨z, ez, z0, z1⟩ := hq1
      have hc0 := (HBW.out.cell (p := ⟨b, off + k * 2, none⟩) hbl).trans (hc 0 (by omega))
      have hc1 := (HBW.out.cell (p := ⟨b, off + k * 2 + 1, none⟩) hbl).trans (hc 1 (by omega))
      rw [ev] at hc0
      rw [ez] at hc1
      have EV := Lib.hid ev
      have EZ := Lib.hid ez
      clear hc ev ez
      obtain ⟨r, m, er, r0, r1, em, em2, m0, eb⟩ := bsz_steps z
      have EB := Lib.hid eb
      clear eb
      by_cases h8 : m < 7
      · obtain ⟨M, eM, M1, hM⟩ := shl_fits m h8
        have HM := Lib.hid hM
        have hvm0 : 0 ≤ v % M := Int.emod_nonneg _ (by omega)
        have hvm1 : v % M < M := Int.emod_lt_of_pos _ (by omega)
        clear hM
        go_wp2_with fail
        refine (put_okI _ _ _ _ (by omega) (by omega) (by omega) hvm0 (by
          have := HM.out
          rw [show (1 + (m : Int)).toNat = 1 + m by omega]
          omega)).mono ?_
        rintro e w2 ⟨rfl, hb2⟩
        rw [show (1 + (m : Int)).toNat = 1 + m by omega]
        have hsz := putS_size t (v % M).toNat (1 + m) (1 + m)
        have hlist : (putS t (v % M).toNat (1 + m) (1 + m)).data.toList = s.data.toList ++ catB V Z (k + 1) := by
          have e1 : V k = (v % M).toNat := by
            rw [HV.out, EV.out, EZ.out]
            simp only [intOf, EB.out]
            rw [if_pos (by omega), show (1 + (m : Int)).toNat = 1 + m by omega, HM.out, toNat_mod _ _ v0]
          have e2 : Z k = 1 + m := by
            rw [HZ.out, EZ.out]
            simp only [intOf, EB.out]
            omega
          rw [catB, e1, e2, ← List.append_assoc, ← HTL.out]
          simp [putS]
        generalize putS t (v % M).toNat (1 + m) (1 + m) = t2 at hsz hlist ⊢
        have HL := Lib.hid hlist
        have HB2 := Lib.hid (HBW.out.trans (hb2.mono HBW.out.size))
        have hsz2 : (t2.size : Int) = (t.size : Int) + (1 + (m : Int)) := by omega
        have HSZ := Lib.hid hsz
        clear hlist hb2 hsz
        have hne : ((t2.size : Int) == (t.size : Int) + (1 + (m : Int))) = true := by rw [hsz2]; simp
        clear hsz2
        go_wp2_with fail
        exact ⟨⟨k + 1, t2, by omega, by have := HSZ.out; omega, HL.out, by go_num, rfl, HB2.out⟩, by simp [intOf]; omega⟩
      · obtain rfl : m = 7 := by omega
        go_wp2_with fail
        have h64 : v.toNat < 2 ^ (8 * (1 + ((7 : Nat) : Int)).toNat) := by
          have : (2 : Nat) ^ (8 * (1 + ((7 : Nat) : Int)).toNat) = 18446744073709551616 := by decide
          omega
        refine (put_okI _ _ _ _ (by omega) (by omega) (by omega) v0 h64).mono ?_
        rintro e w2 ⟨rfl, hb2⟩
        rw [show (1 + ((7 : Nat) : Int)).toNat = 8 from rfl]
        have hsz := putS_size t v.toNat 8 8
        have hlist : (putS t v.toNat 8 8).data.toList = s.data.toList ++ catB V Z (k + 1) := by
          have e1 : V k = v.toNat := by
            rw [HV.out, EV.out, EZ.out]
            simp only [intOf, EB.out]
            rw [if_neg (by omega)]
          have e2 : Z k = 8 := by
            rw [HZ.out, EZ.out]
            simp only [intOf, EB.out]
            rfl
          rw [catB, e1, e2, ← List.append_assoc, ← HTL.out]
          simp [putS]
        generalize putS t v.toNat 8 8 = t2 at hsz hlist ⊢
        have HL := Lib.hid hlist
        have HB2 := Lib.hid (HBW.out.trans (hb2.mono HBW.out.size))
        have HSZ := Lib.hid hsz
        have hne : ((t2.size : Int) == (t.size : Int) + (1 + ((7 : Nat) : Int))) = true := by rw [hsz]; simp
        clear hlist hb2 hsz h64
        go_wp2_with fail
        exact ⟨⟨k + 1, t2, by omega, by have := HSZ.out; omega, HL.out, by go_num, rfl, HB2.out⟩, by simp [intOf]; omega⟩
    · obtain rfl : n = k := by omega
      go_wp2_with fail
      refine (new_any _ _).mono ?_
      rintro e w2 ⟨rfl, rfl⟩
      have hr0 : RdAt (wr.alloc (.cells #[.bool true, .string t] 55)) wr.heap.size t := heap_alloc_new wr _
      have hb2 : Below w.heap.size w (wr.alloc (.cells #[.bool true, .string t] 55)) := HBW.out.alloc HBW.out.size _
      have hz : w.heap.size ≤ wr.heap.size := HBW.out.size
      generalize wr.alloc (.cells #[.bool true, .string t] 55) = w2 at hr0 hb2 ⊢
      generalize wr.heap.size = r at hr0 hz ⊢
      have HR := Lib.hid hr0
      have HB2 := Lib.hid hb2
      clear hr0 hb2
      have hts : s.size ≤ t.size := by
        have h1 : t.data.toList.length = t.size := by simp
        have h2 : s.data.toList.length = s.size := by simp
        have h3 := congrArg List.length HTL.out
        rw [List.length_append] at h3
        omega
      go_wp2_with fail
      refine (take_ok r t _ _ HR.out (by omega) (by omega) (by omega)).mono ?_
      rintro e w3 ⟨rfl, rfl⟩
      rw [Int.toNat_natCast, bytes_front t _ _ s.size HTL.out (by simp), bytes_back t _ _ s.size HTL.out (by simp)]
      have hss : (ByteArray.mk s.data.toList.toArray) = s := by simp
      rw [hss]
      clear hss
      have hr3 := HR.out.set ⟨(catB V Z n).toArray⟩
      have hb3 := HB2.out.setCell (p := ⟨r, 1, none⟩) hz (.string ⟨(catB V Z n).toArray⟩)
      generalize w2.setCell ⟨r, 1, none⟩ (.string ⟨(catB V Z n).toArray⟩) = w3 at hr3 hb3 ⊢
      have HR3 := Lib.hid hr3
      have HB3 := Lib.hid hb3
      clear hr3 hb3 HR HB2 hts
      go_wp2_with fail
      have hF0 : catB V Z n = catF V Z 0 n := by have := catF_eq V Z n 0; simpa [catB] using this.symm
      have HF0 := Lib.hid hF0
      clear hF0
      go_loopw [14] (fun i wr => ∃ k : Nat, k ≤ n ∧ i = .int .i64 k ∧ RdAt wr r ⟨(catF V Z k (n - k)).toArray⟩ ∧ Below w.heap.size w wr) (fun i _ => 101 - (intOf i).toNat)
      case atStart => exact ⟨0, Nat.zero_le _, rfl, by rw [Nat.sub_zero, ← HF0.out]; exact HR3.out, HB3.out⟩
      case round =>
        obtain ⟨k, hk, rfl, hrd, hbw⟩ := hrel
        have HBW := Lib.hid hbw
        have HRD := Lib.hid hrd
        clear hbw hrd HF0
        by_cases hlt : k < n
        · obtain ⟨b, off, rfl, hbl, hc⟩ := HC.out k (by omega)
          have hq0 := HQ.out k 0 (by omega) (by omega)
          have hq1 := HQ.out k 1 (by omega) (by omega)
          simp only [if_true, if_false, Nat.one_ne_zero] at hq0 hq1
          obtain ⟨v, ev, v0, v1⟩ := hq0
          obtain ⟨z, ez, z0, z1⟩ := hq1
          have hc0 := (HBW.out.cell (p := ⟨b, off + k * 2, none⟩) hbl).trans (hc 0 (by omega))
          have hc1 := (HBW.out.cell (p := ⟨b, off + k * 2 + 1, none⟩) hbl).trans (hc 1 (by omega))
          have hc0w : w.cell? ⟨b, off + k * 2, none⟩ = some (.int .u64 v) := (hc 0 (by omega)).trans (by rw [ev])
          rw [ev] at hc0
          rw [ez] at hc1
          have HC0 := Lib.hid hc0w
          have EV := Lib.hid ev
          have EZ := Lib.hid ez
          clear hc ev ez hc0w hc0
          obtain ⟨r', m, er, r0, r1, em, em2, m0, eb⟩ := bsz_steps z
          have EB := Lib.hid eb
          clear eb
          have hZk : Z k = 1 + m := by
            rw [HZ.out, EZ.out]
            simp only [intOf, EB.out]
            omega
          have hnk : n - k = (n - (k + 1)) + 1 := by omega
          have hcat : (catF V Z k (n - k)) = beB (V k) (1 + m) (1 + m) ++ catF V Z (k + 1) (n - (k + 1)) := by
            rw [hnk, catF, hZk]
          have hrd2 : RdAt wr r ⟨(beB (V k) (1 + m) (1 + m) ++ catF V Z (k + 1) (n - (k + 1))).toArray⟩ := by rw [← hcat]; exact HRD.out
          have hlen : (beB (V k) (1 + m) (1 + m) ++ catF V Z (k + 1) (n - (k + 1))).length = 1 + m + (catF V Z (k + 1) (n - (k + 1))).length := by rw [List.length_append, beB_length]
          have hlen2 := catF_length V Z HZ8.out (n - (k + 1)) (k + 1)
          have hsb : (ByteArray.mk (beB (V k) (1 + m) (1 + m) ++ catF V Z (k + 1) (n - (k + 1))).toArray).size = 1 + m + (catF V Z (k + 1) (n - (k + 1))).length := by
            show (List.toArray _).size = _
            rw [List.size_toArray, hlen]
          have hs1 : 1 + m ≤ (ByteArray.mk (beB (V k) (1 + m) (1 + m) ++ catF V Z (k + 1) (n - (k + 1))).toArray).size := by omega
          have hs2 : (ByteArray.mk (beB (V k) (1 + m) (1 + m) ++ catF V Z (k + 1) (n - (k + 1))).toArray).size ≤ 1000 := by omega
          have HR2 := Lib.hid hrd2
          have HS1 := Lib.hid hs1
          have HS2 := Lib.hid hs2
          clear hrd2 hs1 hs2 hsb hlen hlen2 hcat hnk hZk
          go_wp2_with fail
          refine (number_okI r _ _ _ HR2.out (by omega) (by omega) (by have := HS1.out; omega) (by have := HS2.out; omega)).mono ?_
          rintro e w4 ⟨rfl, hrd3, hg⟩
          have htk : (1 + (m : Int)).toNat = 1 + m := by omega
          rw [htk] at hrd3 ⊢
          clear htk
          rw [bytes_back _ (beB (V k) (1 + m) (1 + m)) (catF V Z (k + 1) (n - (k + 1))) (1 + m) rfl (beB_length _ _ _)] at hrd3
          have hval : beVal ((ByteArray.mk (beB (V k) (1 + m) (1 + m) ++ catF V Z (k + 1) (n - (k + 1))).toArray).data.toList.take (1 + m)) = beVal (beB (V k) (1 + m) (1 + m)) := by
            show beVal (List.take (1 + m) (beB (V k) (1 + m) (1 + m) ++ _)) = _
            rw [List.take_left' (beB_length _ _ _)]
          rw [hval]
          have hb4 := HBW.out.grown hg HBW.out.size (fun j hj => by cases hj; exact hz)
          have hc4 := (hb4.cell (p := ⟨b, off + k * 2, none⟩) hbl).trans HC0.out
          have HR4 := Lib.hid hrd3
          have HB4 := Lib.hid hb4
          clear hrd3 hg hb4 hval HC0 HBW HRD HR2 HS1 HS2 hc1
          have hi1 : (0 : Int) ≤ (k : Int) := by omega
          have hi2 : (k : Int) < (n : Int) := by omega
          by_cases h8 : m < 7
          · obtain ⟨M, eM, M1, hM⟩ := shl_fits m h8
            have e1 : V k = (v % M).toNat := by
              rw [HV.out, EV.out, EZ.out]
              simp only [intOf, EB.out]
              rw [if_pos (by omega), show (1 + (m : Int)).toNat = 1 + m by omega, hM, toNat_mod _ _ v0]
            have hvm0 : 0 ≤ v % M := Int.emod_nonneg _ (by omega)
            have hvm1 : v % M < M := Int.emod_lt_of_pos _ (by omega)
            have hval : ((beVal (beB (V k) (1 + m) (1 + m)) : Nat) : Int) = v % M := by
              rw [beVal_whole _ _ (by rw [e1]; omega), e1]
              omega
            rw [hval]
            clear hval e1 hM
            have g1 : ((1 + (m : Int)) == 8) = false := by simp; omega
            have g2 : decide ((1 + (m : Int)) < 8) = true := by simp; omega
            go_wp2_with fail
            go_quiet (fail)
            go_wp2_with fail
            exact ⟨⟨k + 1, by omega, by go_num, HR4.out, below_drewN HB4.out nq⟩, by simp [intOf]; omega⟩
          · obtain rfl : m = 7 := by omega
            have hval : ((beVal (beB (V k) (1 + 7) (1 + 7)) : Nat) : Int) = v := by
              have e1 : V k = v.toNat := by
                rw [HV.out, EV.out, EZ.out]
                simp only [intOf, EB.out]
                rw [if_neg (by omega)]
              have h64 : (2 : Nat) ^ (8 * (1 + 7)) = 18446744073709551616 := by decide
              rw [beVal_whole _ _ (by rw [e1]; omega), e1]
              omega
            rw [hval]
            clear hval
            go_wp2_with fail
            go_quiet (fail)
            go_wp2_with fail
            exact ⟨⟨k + 1, by omega, by go_num, HR4.out, below_drewN HB4.out nq⟩, by simp [intOf]; omega⟩
        · obtain rfl : n = k := by omega
          have hre : RdAt wr r ByteArray.empty := by
            have := HRD.out
            rw [Nat.sub_self] at this
            exact this
          have HRE := Lib.hid hre
          clear hre
          go_wp2_with fail
          refine (left_any r _ _ HRE.out).mono ?_
          rintro e w4 ⟨rfl, rfl⟩
          go_wp2_with fail
          refine (rest_any r _ _ HRE.out (by decide)).mono ?_
          rintro e w5 ⟨rfl, rfl⟩
          go_wp2_with fail
          go_ret
          exact ⟨ret_bool (by decide +kernel), HBW.out.setCell hz _⟩

set_option maxRecDepth 100000 in
theorem wireBack_lifted (os : Os) (started : os.Started) (H : Type) (enc : TypeId × Value → H) :
    ReturnsInHanded {} Try.checked os 5 .any (Rows.wireBackSpec.pre6 enc Try.prog Try.f5 Rows.wireBackRow.domain false) (Rows.wireBackSpec.post enc Try.prog Try.f5 false true false false) := by
  refine returnsInHanded_of_change_sized (C := Try.checked) own started (by kernel_rfl) Try.func5
    (ChangeSpec.witness6 (enc := enc) (C := Try.checked) false ⟨#[], #[.string .empty, .slice none 0 0], []⟩ 8 (by kernel_rfl) (by kernel_rfl) (by kernel_rfl) (by kernel_rfl)) ?_
  intro W base args ds gs before hval0 hW hcnd hsz _
  have hval : ∀ (j : Nat) t v, Try.f5.params[j]? = some t → args[j]? = some v → Value.okWide Try.prog W .any base t v := hval0
  have hW' := hW
  obtain ⟨p, q, hA0, hV, rfl, hfz, hnd⟩ := hW
  have hA : DataW.TrodAll enc Try.prog W 0 (fun _ => true) true Try.f5.params.toList args.toList ds p := hA0
  rw [Try.params5] at hA hval
  obtain ⟨v0, vs0, d0, ds0, p0, q0, hargs, rfl, rfl, h0, r0⟩ := trodAll_cons hA
  obtain ⟨v1, vs1, d1, ds1, p1, q1, rfl, rfl, rfl, h1, r1⟩ := trodAll_cons r0
  obtain ⟨rfl, rfl, rfl⟩ := trodAll_nil r1
  obtain rfl : args = #[v0, v1] := by cases args; simp_all
  obtain ⟨rfl, rfl⟩ := trodVars_none hV
  obtain ⟨s, rfl, rfl, rfl, hs_s⟩ := open_string Try.underlying9 (hval 0 9 v0 rfl rfl) h0
  obtain ⟨A, len, cap, rfl, hrow⟩ := open_rows Try.underlying44 Try.underlying46 (by kernel_rfl) (by kernel_rfl) (by decide) (hval 1 44 v1 rfl rfl) h1
  have hrow' : InRow W A len cap 2 (fun j v => if j = 0 then IsU64 v else IsI64 v) := InRow.mono (size := 2) hrow (fun j v hj hq => by
    rcases (show j = 0 ∨ j = 1 by omega) with rfl | rfl
    · obtain ⟨n, y, h⟩ := hq _ rfl
      exact isU64 Try.underlying22 h
    · obtain ⟨n, y, h⟩ := hq _ rfl
      exact isI64 Try.underlying3 h)
  have rs_s : s.size ≤ 140737488351232 := by have h := sized_string hsz (j := 0) rfl rfl; simpa [reachBytes] using h
  refine (wireBack_walk s A len cap W rs_s hrow').mono fun e W' ⟨he, bel⟩ => ?_
  exact ⟨_, he, law_post laidOut (by kernel_rfl) rfl (by kernel_rfl) Try.underlying4 hW' rfl bel⟩

theorem wireBack_holds : Rows.WireBackSaid :=
  OpenClaim.holds_of_wide 5 Try.f5 rfl rfl rfl rfl rfl rfl rfl ⟨rfl, rfl, rfl, rfl, rfl⟩ rfl rfl rfl rfl rfl (by kernel_rfl) Try.func5 (by kernel_rfl)
    (of_decide_eq_true (by kernel_rfl)) (by unfold Func.isWrapper; first | (rw [if_pos (by decide +kernel)]; kernel_rfl) | (rw [if_neg (by decide +kernel)]; exact ⟨rfl, rfl⟩))
    (fun os started H enc _ => wireBack_lifted os started H enc)

end Go.Proofs.Ytgjebmnomgdckaa
