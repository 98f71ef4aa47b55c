/-
  WireWhole: for every bytes and sizes of pieces the law answers true. Conditions: what comes in is of bulk at most 1048576 (the second form).
-/
import Derived.Test.YtgjebmnomgdckaaLawHex
import Derived.Test.YtgjebmnomgdckaaLawReads
set_option linter.unusedVariables false
set_option linter.unusedSimpArgs false
namespace Go.Proofs.Ytgjebmnomgdckaa
open Go.RowKit
open Go.ChangeShapes Go.WideShapes Go.ChangeAt
open Go.ChangeMaps (open_string shut_string)

theorem undig_hdig (d : Nat) (h : d < 16) : undig (hdig d) = d := by
  have : ∀ x : Fin 16, undig (hdig x.val) = x.val := by decide +kernel
  exact this ⟨d, h⟩
theorem hexL_at : ∀ (l : List UInt8) (j : Nat), j < l.length → (hexL l).getD (2 * j) 0 = hdig ((l.getD j 0).toNat / 16) ∧ (hexL l).getD (2 * j + 1) 0 = hdig ((l.getD j 0).toNat % 16)
  | [], j, h => by simp at h
  | a :: l, 0, _ => by simp [hexL]
  | a :: l, j + 1, h => by
    have ih := hexL_at l j (by simpa using h)
    have e : hexL (a :: l) = hdig (a.toNat / 16) :: hdig (a.toNat % 16) :: hexL l := by simp [hexL]
    rw [e]
    simp only [Nat.mul_add, Nat.mul_one, List.getD_cons_succ]
    exact ih
theorem hexS_size (s : ByteArray) : (ByteArray.mk (hexL s.data.toList).toArray).size = 2 * s.size := by
  show (List.toArray _).size = _
  rw [List.size_toArray, hexL_length]
  simp
theorem hexS_ok (s : ByteArray) (j : Nat) (h : j < s.size) : okPair ⟨(hexL s.data.toList).toArray⟩ j := by
  have h' : j < s.data.toList.length := by simpa using h
  have e := hexL_at s.data.toList j h'
  have hc := (s.data.toList.getD j 0).toNat_lt
  constructor
  · show undig ((hexL s.data.toList).getD (2 * j) 0) < 16
    rw [e.1, undig_hdig _ (by omega)]
    omega
  · show undig ((hexL s.data.toList).getD (2 * j + 1) 0) < 16
    rw [e.2, undig_hdig _ (by omega)]
    omega
theorem hexS_back (s : ByteArray) : ∀ k, k ≤ s.size → unhL ⟨(hexL s.data.toList).toArray⟩ k = s.data.toList.take k := by
  intro k
  induction k with
  | zero => intro _; rfl
  | succ k ih =>
    intro hk
    have h' : k < s.data.toList.length := by rw [Array.length_toList]; exact hk
    have e := hexL_at s.data.toList k h'
    rw [unhL_succ, ih (by omega), take_snoc s k (by omega)]
    congr 1
    have e1 : bAt ⟨(hexL s.data.toList).toArray⟩ (2 * k) = hdig ((s.data.toList.getD k 0).toNat / 16) := e.1
    have e2 : bAt ⟨(hexL s.data.toList).toArray⟩ (2 * k + 1) = hdig ((s.data.toList.getD k 0).toNat % 16) := e.2
    have hc := (s.data.toList.getD k 0).toNat_lt
    rw [e1, e2, undig_hdig _ (by omega), undig_hdig _ (by omega)]
    have e3 : s[k] = s.data.toList.getD k 0 := bAt_eq s k (by omega)
    rw [e3]
    congr 1
    rw [show 16 * ((s.data.toList.getD k 0).toNat / 16) + (s.data.toList.getD k 0).toNat % 16 = (s.data.toList.getD k 0).toNat by omega]
    simp

/-- the digits of bytes are read as those bytes -/
theorem unhex_hex (s : ByteArray) (w : World) (hs : s.size ≤ 1048576) :
    Calls Try.prog 19 #[.string ⟨(hexL s.data.toList).toArray⟩] w fun e w' => e = .returned (.tuple #[.string s, .int .i64 0]) ∧ Below w.heap.size w w' := by
  refine (unhex_even ⟨(hexL s.data.toList).toArray⟩ w s.size s.size (by rw [hexS_size]; omega) (hexS_size s) (Nat.le_refl _) (fun j hj => hexS_ok s j hj) (fun h => absurd h (by omega))).mono fun e w' ⟨h1, h2⟩ => ⟨?_, h2⟩
  rw [h1, unhOut, if_pos rfl, hexS_back s s.size (Nat.le_refl _), List.take_of_length_le (by simp)]

set_option maxRecDepth 100000 in
theorem wireWhole_walk (s : ByteArray) (A : Option Addr) (len cap : Nat) (w : World) (hs : s.size ≤ 1048576) (hr : InRow w A len cap 1 (fun _ v => IsI64 v)) :
    Calls Try.prog 7 #[.string s, .slice A len cap] w fun e w' => e = .returned (.bool true) ∧ Below w.heap.size w w' := by
  obtain ⟨i0, hi, hz0, hz1, hz2⟩ := info_parts infoU8
  have hlc := hr.1
  have hcm := hr.2.1
  unfold maxLen at hcm
  have HR := Lib.hid hr
  clear hr
  go_enter Try.func7, Try.ntmps7
  go_wp2_with fail
  refine (works_any _).mono ?_
  rintro e w0 ⟨rfl, hb0⟩
  have HB0 := Lib.hid hb0
  clear hb0
  go_wp2_with fail
  refine (new_any _ _).mono ?_
  rintro e w1 ⟨rfl, rfl⟩
  have hrd : RdAt (w0.alloc (.cells #[.bool true, .string s] 55)) w0.heap.size s := heap_alloc_new w0 _
  have hb1 : Below w.heap.size w (w0.alloc (.cells #[.bool true, .string s] 55)) := HB0.out.alloc HB0.out.size _
  have hz : w.heap.size ≤ w0.heap.size := HB0.out.size
  have hro : ∀ v : Value, OwnM (w0.alloc (.cells #[.bool true, .string s] 55)) (w0.heap.size + 1) 5 1 (.slice none 0 0) 0 (byteVals []) := fun _ => OwnM.nil _ _ _ _
  generalize w0.alloc (.cells #[.bool true, .string s] 55) = W1 at hrd hb1 ⊢
  have HRD := Lib.hid hrd
  have HB1 := Lib.hid hb1
  generalize w0.heap.size = r at hrd hz HRD ⊢
  clear hrd hb1 HB0 hro
  go_wp2_with fail
  go_loopw [6, 7] (fun o i wr => ∃ (k m : Nat) (g t : ByteArray), k ≤ len ∧ k ≤ 100 ∧ g.size + t.size = s.size ∧ m = g.size ∧ s.data.toList = g.data.toList ++ t.data.toList ∧ i = .int .i64 k ∧ OwnM wr (r + 1) 5 1 o m (byteVals g.data.toList) ∧ RdAt wr r t ∧ Below w.heap.size w wr) (fun _ i _ => 101 - (intOf i).toNat)
  case atStart => exact ⟨0, 0, ByteArray.empty, s, by omega, by omega, Nat.zero_add _, rfl, rfl, rfl, OwnM.nil _ _ _ _, HRD.out, HB1.out⟩
  case round =>
    obtain ⟨k, m, g, t, hk, hk1, hgt, hm, hl, rfl, hn, hrd, hbw⟩ := hrel
    have hts : t.size ≤ 1048576 := by omega
    have hms : m ≤ 1048576 := by omega
    have HGT := Lib.hid hgt
    have HM := Lib.hid hm
    have HL := Lib.hid hl
    have HN := Lib.hid hn
    have HRD := Lib.hid hrd
    have HBW := Lib.hid hbw
    have hrlt : r < wr.heap.size := hrd.lt
    clear hgt hm hl hn hrd hbw
    by_cases hlt : k < len ∧ k < 100
    · obtain ⟨hlt, h100⟩ := hlt
      obtain ⟨b, off, rfl, hbl, hc⟩ := HR.out.at_ hlt
      obtain ⟨v0, hc0, n0, rfl, n01, n02⟩ := hc 0 (by omega)
      rw [Nat.mul_one, Nat.add_zero] at hc0
      have hd0 := ((HBW.out.cell (p := ⟨b, off + k, none⟩) hbl).trans hc0)
      have HC0 := Lib.hid hc0
      clear hc hc0
      go_wp2_with fail
      refine (left_any r _ _ HRD.out).mono ?_
      rintro e w2 ⟨rfl, rfl⟩
      go_wp2_with fail
      by_cases hok : 0 ≤ n0 ∧ n0 ≤ t.size
      · obtain ⟨q0, q1⟩ := hok
        refine (take_ok r t n0 _ HRD.out q0 q1 (by omega)).mono ?_
        rintro e w3 ⟨rfl, rfl⟩
        obtain ⟨x, hx⟩ : ∃ x, x = t.extract 0 n0.toNat := ⟨_, rfl⟩
        obtain ⟨rest, hrest⟩ : ∃ y, y = t.extract n0.toNat t.size := ⟨_, rfl⟩
        rw [← hx, ← hrest]
        have hs1 : x.size = n0.toNat := by rw [hx]; simp; omega
        have hs2 : rest.size = t.size - n0.toNat := by rw [hrest]; simp
        obtain ⟨g2, hg2⟩ : ∃ g2 : ByteArray, g2 = g ++ x := ⟨_, rfl⟩
        have hs3 : g2.size = g.size + x.size := by rw [hg2, ByteArray.size_append]
        have hgl : g2.data.toList = g.data.toList ++ x.data.toList := by rw [hg2]; simp
        have hl2 : s.data.toList = g2.data.toList ++ rest.data.toList := by
          rw [HL.out, hgl, List.append_assoc, hx, hrest]
          congr 1
          simp only [ByteArray.data_extract, Array.toList_extract, List.extract_eq_take_drop, List.drop_zero, Nat.sub_zero]
          have : t.data.toList.length = t.size := by simp
          rw [List.take_of_length_le (i := t.size - n0.toNat) (by rw [List.length_drop]; omega), List.take_append_drop]
        have he : (((rest.size : Nat) : Int) == (t.size : Int) - (x.size : Int)) = true := by rw [beq_iff_eq]; omega
        have hx2 : x.size ≤ 1048576 := by omega
        have HG := Lib.hid hgl
        have HL2 := Lib.hid hl2
        have HS1 : Hid (x.size + rest.size = t.size) := by show _ = _; omega
        have HS2 : Hid (g2.size = g.size + x.size) := hs3
        have HE := Lib.hid he
        clear hgl hl2 hs1 hs2 hs3 hg2 he hx hrest
        have hrd3 := HRD.out.set rest
        have hbw3 := HBW.out.setCell (p := ⟨r, 1, none⟩) hz (.string rest)
        have hn3 := HN.out.setCell (p := ⟨r, 1, none⟩) (fun j hj => by have := (HN.out.lt j hj).1; show j ≠ r; omega) (.string rest)
        generalize w2.setCell ⟨r, 1, none⟩ (.string rest) = w3 at hrd3 hbw3 hn3 ⊢
        have HRD3 := Lib.hid hrd3
        have HBW3 := Lib.hid hbw3
        have HN3 := Lib.hid hn3
        clear hrd3 hbw3 hn3 hd0
        have hd3 := ((HBW3.out.cell (p := ⟨b, off + k, none⟩) hbl).trans HC0.out)
        have hr1 : r + 1 ≤ w3.heap.size := HRD3.out.lt
        go_wp2_with (at_builtin; refine wpList_append_m rfl (.tmp 63) (.tmp 64) 52 9 rfl (r + 1) 5 i0 _ 1 1 Try.underlying52 hi hz0 hz1 hz2 rfl (by omega) u6 m _ rfl HN3.out _ x.size (byteVals x.data.toList) rfl (Src.string Try.underlying9) (by unfold maxLen; omega) (by omega) hr1 ?_; intro o' w4 hown1 hg1 hat1)
        rw [← byteVals_append, ← HG.out] at hown1
        have hrd4 : RdAt w4 r rest := (hg1.block r HRD3.out.lt (fun e => by have := (HN3.out.lt r e.symm).1; omega)).trans HRD3.out
        have hb4 := HN3.out.below_grown hg1 HBW3.out HBW3.out.size (by omega)
        have HO4 := Lib.hid hown1
        have HR4 := Lib.hid hrd4
        have HB4 := Lib.hid hb4
        clear hown1 hrd4 hb4 hg1 hat1 hd3 hr1
        refine (left_any r _ _ HR4.out).mono ?_
        rintro e w5 ⟨rfl, rfl⟩
        have heq := HE.out
        go_wp2_with fail
        have h1 := HS1.out
        have h2 := HS2.out
        have h3 := HGT.out
        have h4 := HM.out
        exact ⟨⟨k + 1, m + x.size, g2, rest, by omega, by omega, by omega, by omega, HL2.out, by go_num, HO4.out, HR4.out, HB4.out⟩, by simp [intOf]; omega⟩
      · have hno : n0 < 0 ∨ t.size < n0 := by omega
        refine (take_no r t n0 _ HRD.out hno (by omega)).mono ?_
        rintro e w3 ⟨rfl, rfl⟩
        obtain ⟨x, hx⟩ : ∃ x, x = ByteArray.empty := ⟨_, rfl⟩
        obtain ⟨rest, hrest⟩ : ∃ y, y = t := ⟨_, rfl⟩
        obtain ⟨g2, hg2⟩ : ∃ y, y = g := ⟨_, rfl⟩
        have hxs : x.size = 0 := by rw [hx]; rfl
        have HS1 : Hid (x.size + rest.size = t.size) := by show _ = _; rw [hrest]; omega
        have HG : Hid (g2.data.toList = g.data.toList ++ x.data.toList) := by
          show _ = _
          have : x.data.toList = [] := by rw [hx]; rfl
          rw [this, List.append_nil, hg2]
        have HE : Hid (((((rest.size : Nat) : Int) == (t.size : Int) - (x.size : Int)) = true)) := by show _ = true; rw [beq_iff_eq, hrest]; omega
        have HS2 : Hid (g2.size = g.size + x.size) := by show _ = _; rw [hg2]; omega
        have hxe : (x.toList == []) = true := by rw [hx, ByteArray.toList_eq]; rfl
        have hx2 : x.size ≤ 1048576 := by omega
        rw [← hx]
        have HL2 : Hid (s.data.toList = g2.data.toList ++ rest.data.toList) := by rw [hrest, hg2]; exact HL.out
        have HRD3 : Hid (RdAt w3 r rest) := by rw [hrest]; exact HRD.out
        have HBW3 := HBW
        have HN3 := HN
        clear hx hxs hrest hd0 hg2 hok
        rcases hno with hneg | hbig
        · have hd3 := ((HBW3.out.cell (p := ⟨b, off + k, none⟩) hbl).trans HC0.out)
          have hr1 : r + 1 ≤ w3.heap.size := HRD3.out.lt
          go_wp2_with (at_builtin; refine wpList_append_m rfl (.tmp 63) (.tmp 64) 52 9 rfl (r + 1) 5 i0 _ 1 1 Try.underlying52 hi hz0 hz1 hz2 rfl (by omega) u6 m _ rfl HN3.out _ x.size (byteVals x.data.toList) rfl (Src.string Try.underlying9) (by unfold maxLen; omega) (by omega) hr1 ?_; intro o' w4 hown1 hg1 hat1)
          rw [← byteVals_append, ← HG.out] at hown1
          have hrd4 : RdAt w4 r rest := (hg1.block r HRD3.out.lt (fun e => by have := (HN3.out.lt r e.symm).1; omega)).trans HRD3.out
          have hb4 := HN3.out.below_grown hg1 HBW3.out HBW3.out.size (by omega)
          have HO4 := Lib.hid hown1
          have HR4 := Lib.hid hrd4
          have HB4 := Lib.hid hb4
          clear hown1 hrd4 hb4 hg1 hat1 hd3 hr1
          refine (left_any r _ _ HR4.out).mono ?_
          rintro e w5 ⟨rfl, rfl⟩
          have heq := HE.out
          go_wp2_with fail
          have h1 := HS1.out
          have h2 := HS2.out
          have h3 := HGT.out
          have h4 := HM.out
          exact ⟨⟨k + 1, m + x.size, g2, rest, by omega, by omega, by omega, by omega, HL2.out, by go_num, HO4.out, HR4.out, HB4.out⟩, by simp [intOf]; omega⟩

        · have h0n : 0 ≤ n0 := by omega
          have hd3 := ((HBW3.out.cell (p := ⟨b, off + k, none⟩) hbl).trans HC0.out)
          have hr1 : r + 1 ≤ w3.heap.size := HRD3.out.lt
          go_wp2_with (at_builtin; refine wpList_append_m rfl (.tmp 63) (.tmp 64) 52 9 rfl (r + 1) 5 i0 _ 1 1 Try.underlying52 hi hz0 hz1 hz2 rfl (by omega) u6 m _ rfl HN3.out _ x.size (byteVals x.data.toList) rfl (Src.string Try.underlying9) (by unfold maxLen; omega) (by omega) hr1 ?_; intro o' w4 hown1 hg1 hat1)
          rw [← byteVals_append, ← HG.out] at hown1
          have hrd4 : RdAt w4 r rest := (hg1.block r HRD3.out.lt (fun e => by have := (HN3.out.lt r e.symm).1; omega)).trans HRD3.out
          have hb4 := HN3.out.below_grown hg1 HBW3.out HBW3.out.size (by omega)
          have HO4 := Lib.hid hown1
          have HR4 := Lib.hid hrd4
          have HB4 := Lib.hid hb4
          clear hown1 hrd4 hb4 hg1 hat1 hd3 hr1
          refine (left_any r _ _ HR4.out).mono ?_
          rintro e w5 ⟨rfl, rfl⟩
          have heq := HE.out
          go_wp2_with fail
          have h1 := HS1.out
          have h2 := HS2.out
          have h3 := HGT.out
          have h4 := HM.out
          exact ⟨⟨k + 1, m + x.size, g2, rest, by omega, by omega, by omega, by omega, HL2.out, by go_num, HO4.out, HR4.out, HB4.out⟩, by simp [intOf]; omega⟩

    · have hend : ¬ k < len ∨ ¬ k < 100 := by omega
      clear hlt
      have hr1 : r + 1 ≤ wr.heap.size := HRD.out.lt
      have hrl : t.data.toList.length = t.size := by simp
      have hsz : m + t.size ≤ 1048576 := by have := HGT.out; have := HM.out; omega
      clear hrl
      by_cases hkl : k < len
      · have hlt : ¬ k < 100 := by omega
        clear hend
        go_wp2_with fail
        refine (rest_any r t _ HRD.out (by omega)).mono ?_
        rintro e w3 ⟨rfl, rfl⟩
        have hrd3 := HRD.out.set ByteArray.empty
        have hbw3 := HBW.out.setCell (p := ⟨r, 1, none⟩) hz (.string ByteArray.empty)
        have hn3 := HN.out.setCell (p := ⟨r, 1, none⟩) (fun j hj => by have := (HN.out.lt j hj).1; show j ≠ r; omega) (.string ByteArray.empty)
        have hr3 : r + 1 ≤ (wr.setCell ⟨r, 1, none⟩ (.string ByteArray.empty)).heap.size := hrd3.lt
        generalize wr.setCell ⟨r, 1, none⟩ (.string ByteArray.empty) = w3 at hrd3 hbw3 hn3 hr3 ⊢
        have HRD3 := Lib.hid hrd3
        have HBW3 := Lib.hid hbw3
        have HN3 := Lib.hid hn3
        clear hrd3 hbw3 hn3 hr1
        go_wp2_with (at_builtin; refine wpList_append_m rfl (.tmp 73) (.tmp 75) 52 9 rfl (r + 1) 5 i0 _ 1 1 Try.underlying52 hi hz0 hz1 hz2 rfl (by omega) u6 m _ rfl HN3.out _ t.size (byteVals t.data.toList) rfl (Src.string Try.underlying9) (by unfold maxLen; omega) (by omega) hr3 ?_; intro o' w4 hown1 hg1 hat1)
        rw [← byteVals_append, ← HL.out] at hown1
        have hrd4 : RdAt w4 r ByteArray.empty := (hg1.block r HRD3.out.lt (fun e => by have := (HN3.out.lt r e.symm).1; omega)).trans HRD3.out
        have hb4 := HN3.out.below_grown hg1 HBW3.out HBW3.out.size (by omega)
        have HO4 := Lib.hid hown1
        have HR4 := Lib.hid hrd4
        have HB4 := Lib.hid hb4
        clear hown1 hrd4 hb4 hg1 hat1 HRD3 HBW3 HN3 HRD HBW HN hr3
        refine (hex_any s _ hs).mono ?_
        rintro e w5 ⟨rfl, hb5⟩
        have HO5 := Lib.hid (HO4.out.below hb5 (Nat.le_refl _))
        have HR5 := Lib.hid (HR4.out.below hb5 HR4.out.lt)
        have HB5 := Lib.hid (HB4.out.trans (hb5.mono HB4.out.size))
        clear hb5 HO4 HR4 HB4
        go_wp2_with fail
        refine (unhex_hex s _ hs).mono ?_
        rintro e w6 ⟨rfl, hb6⟩
        have HO6 := Lib.hid (HO5.out.below hb6 (Nat.le_refl _))
        have HR6 := Lib.hid (HR5.out.below hb6 HR5.out.lt)
        have HB6 := Lib.hid (HB5.out.trans (hb6.mono HB5.out.size))
        clear hb6 HO5 HR5 HB5
        have hstr := run_string_m (P := Try.prog) w6 52 9 5 _ _ _ _ Try.underlying52 Try.underlying5 Try.underlying9 HO6.out
        have hss : (ByteArray.mk s.data.toList.toArray) = s := by simp
        rw [hss] at hstr
        clear hss
        go_wp2_with fail
        refine (left_any r _ _ HR6.out).mono ?_
        rintro e w7 ⟨rfl, rfl⟩
        go_wp2_with fail
        go_ret
        exact ⟨ret_bool (by decide +kernel), HB6.out⟩
      · clear hend
        go_wp2_with fail
        refine (rest_any r t _ HRD.out (by omega)).mono ?_
        rintro e w3 ⟨rfl, rfl⟩
        have hrd3 := HRD.out.set ByteArray.empty
        have hbw3 := HBW.out.setCell (p := ⟨r, 1, none⟩) hz (.string ByteArray.empty)
        have hn3 := HN.out.setCell (p := ⟨r, 1, none⟩) (fun j hj => by have := (HN.out.lt j hj).1; show j ≠ r; omega) (.string ByteArray.empty)
        have hr3 : r + 1 ≤ (wr.setCell ⟨r, 1, none⟩ (.string ByteArray.empty)).heap.size := hrd3.lt
        generalize wr.setCell ⟨r, 1, none⟩ (.string ByteArray.empty) = w3 at hrd3 hbw3 hn3 hr3 ⊢
        have HRD3 := Lib.hid hrd3
        have HBW3 := Lib.hid hbw3
        have HN3 := Lib.hid hn3
        clear hrd3 hbw3 hn3 hr1
        go_wp2_with (at_builtin; refine wpList_append_m rfl (.tmp 73) (.tmp 75) 52 9 rfl (r + 1) 5 i0 _ 1 1 Try.underlying52 hi hz0 hz1 hz2 rfl (by omega) u6 m _ rfl HN3.out _ t.size (byteVals t.data.toList) rfl (Src.string Try.underlying9) (by unfold maxLen; omega) (by omega) hr3 ?_; intro o' w4 hown1 hg1 hat1)
        rw [← byteVals_append, ← HL.out] at hown1
        have hrd4 : RdAt w4 r ByteArray.empty := (hg1.block r HRD3.out.lt (fun e => by have := (HN3.out.lt r e.symm).1; omega)).trans HRD3.out
        have hb4 := HN3.out.below_grown hg1 HBW3.out HBW3.out.size (by omega)
        have HO4 := Lib.hid hown1
        have HR4 := Lib.hid hrd4
        have HB4 := Lib.hid hb4
        clear hown1 hrd4 hb4 hg1 hat1 HRD3 HBW3 HN3 HRD HBW HN hr3
        refine (hex_any s _ hs).mono ?_
        rintro e w5 ⟨rfl, hb5⟩
        have HO5 := Lib.hid (HO4.out.below hb5 (Nat.le_refl _))
        have HR5 := Lib.hid (HR4.out.below hb5 HR4.out.lt)
        have HB5 := Lib.hid (HB4.out.trans (hb5.mono HB4.out.size))
        clear hb5 HO4 HR4 HB4
        go_wp2_with fail
        refine (unhex_hex s _ hs).mono ?_
        rintro e w6 ⟨rfl, hb6⟩
        have HO6 := Lib.hid (HO5.out.below hb6 (Nat.le_refl _))
        have HR6 := Lib.hid (HR5.out.below hb6 HR5.out.lt)
        have HB6 := Lib.hid (HB5.out.trans (hb6.mono HB5.out.size))
        clear hb6 HO5 HR5 HB5
        have hstr := run_string_m (P := Try.prog) w6 52 9 5 _ _ _ _ Try.underlying52 Try.underlying5 Try.underlying9 HO6.out
        have hss : (ByteArray.mk s.data.toList.toArray) = s := by simp
        rw [hss] at hstr
        clear hss
        go_wp2_with fail
        refine (left_any r _ _ HR6.out).mono ?_
        rintro e w7 ⟨rfl, rfl⟩
        go_wp2_with fail
        go_ret
        exact ⟨ret_bool (by decide +kernel), HB6.out⟩

theorem bulk_string2 {H : Type} {s : ByteArray} {l : List (DataW H)} (hk : Rows.uptoSmall H (.lit (.string s.data.toList) :: l) = true) : s.size ≤ 1048576 := bulk_string hk

set_option maxRecDepth 100000 in
theorem wireWhole_liftedU (os : Os) (started : os.Started) (H : Type) (enc : TypeId × Value → H) (F : Stop.Interp) :
    ReturnsInHanded {} Try.checked os 7 .any ((Rows.OpenSpec.upto Rows.wireWholeSpec).pre6 enc Try.prog Try.f7 Rows.wireWholeUptoRow.domain false) (((Rows.OpenSpec.upto Rows.wireWholeSpec).at F).post enc Try.prog Try.f7 false true false false) := by
  refine returnsInHanded_of_cond (C := Try.checked) (s := Rows.OpenSpec.upto Rows.wireWholeSpec) (k := Rows.uptoSmall) rfl own started (by kernel_rfl) Try.func7
    (OpenSpec.witness (enc := enc) (C := Try.checked) (s := Rows.OpenSpec.upto Rows.wireWholeSpec) (k := Rows.uptoSmall) rfl false ⟨#[], #[.string .empty, .slice none 0 0], []⟩ 8 (by kernel_rfl) (by kernel_rfl) (by kernel_rfl)
      (x := ([.lit (.string []), .nil], [], [])) (by kernel_rfl) rfl (by kernel_rfl)) ?_
  intro W base args ds gs before hval0 hW hcnd hk _
  have hval : ∀ (j : Nat) t v, Try.f7.params[j]? = some t → args[j]? = some v → Value.okWide Try.prog W .any base t v := hval0
  have hW' := hW
  obtain ⟨p, q, hA0, hV, rfl, hfz, hnd⟩ := hW
  have hA : DataW.TrodAll enc Try.prog W 0 (fun _ => true) true Try.f7.params.toList args.toList ds p := hA0
  rw [Try.params7] at hA hval
  obtain ⟨v0, vs0, d0, ds0, p0, q0, hargs, rfl, rfl, h0, r0⟩ := trodAll_cons hA
  obtain ⟨v1, vs1, d1, ds1, p1, q1, rfl, rfl, rfl, h1, r1⟩ := trodAll_cons r0
  obtain ⟨rfl, rfl, rfl⟩ := trodAll_nil r1
  obtain rfl : args = #[v0, v1] := by cases args; simp_all
  obtain ⟨rfl, rfl⟩ := trodVars_none hV
  obtain ⟨s, rfl, rfl, rfl, hs_s⟩ := open_string Try.underlying9 (hval 0 9 v0 rfl rfl) h0
  obtain ⟨A, len, cap, rfl, hrow⟩ := open_introw Try.underlying51 Try.underlying3 (by kernel_rfl) (hval 1 51 v1 rfl rfl) h1
  have hrow' : InRow W A len cap 1 (fun _ v => IsI64 v) := hrow.mono (fun j v hj hq => by
    obtain ⟨n, rfl, hw⟩ := hq
    exact ⟨n, rfl, by simpa [Lit.wf, IntKind.min, IntKind.max, IntKind.signed, IntKind.bits] using hw⟩)
  simp only [List.append_nil] at hk
  refine (wireWhole_walk s A len cap W (bulk_string hk) hrow').mono fun e W' ⟨he, bel⟩ => ?_
  exact ⟨_, he, law_post laidOut (by kernel_rfl) rfl (by kernel_rfl) Try.underlying4 hW' rfl bel⟩

theorem wireWhole_holdsU : Rows.WireWholeUptoSaid :=
  OpenClaim.holds_of_cond 7 Try.f7 rfl rfl rfl rfl rfl rfl rfl ⟨rfl, rfl, rfl, rfl, rfl⟩ rfl rfl rfl rfl rfl (by kernel_rfl) Try.func7 (by kernel_rfl)
    (of_decide_eq_true (by kernel_rfl)) (by unfold Func.isWrapper; first | (rw [if_pos (by decide +kernel)]; kernel_rfl) | (rw [if_neg (by decide +kernel)]; exact ⟨rfl, rfl⟩))
    (fun os started H enc _ F => wireWhole_liftedU os started H enc F)

end Go.Proofs.Ytgjebmnomgdckaa
