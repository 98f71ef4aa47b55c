/-
  Several texts in one.
-/
import Derived.Test.YtkcojblflebomaaGreatNR5
set_option linter.unusedVariables false
set_option linter.unusedSimpArgs false
namespace Go.Proofs.YtkcojblflebomaaGreat
open Go.RowKit Go.MapKept Go.Shelf
open Go.Lib hiding intOf

/-- what is left behind n bytes; the number of the first n -/
def nx (s : ByteArray) (n : Nat) : ByteArray := s.extract n s.size
def hd (s : ByteArray) (n : Nat) : Nat := beVal (s.data.toList.take n)
theorem nx_size (s : ByteArray) (n : Nat) : (nx s n).size = s.size - n := by unfold nx; simp
theorem hd_one (s : ByteArray) : hd s 1 < 256 := by
  unfold hd
  have := beVal_lt (s.data.toList.take 1) _ rfl
  have h2 : (s.data.toList.take 1).length ≤ 1 := List.length_take_le _ _
  have h3 : 256 ^ (s.data.toList.take 1).length ≤ 256 ^ 1 := Nat.pow_le_pow_right (by omega) h2
  omega
theorem hd_two (s : ByteArray) : hd s 2 < 65536 := by
  unfold hd
  have := beVal_lt (s.data.toList.take 2) _ rfl
  have h2 : (s.data.toList.take 2).length ≤ 2 := List.length_take_le _ _
  have h3 : 256 ^ (s.data.toList.take 2).length ≤ 256 ^ 2 := Nat.pow_le_pow_right (by omega) h2
  omega
def bit8 (f : Nat) : Bool := f / 16 % 2 == 1
theorem and16 (f : Nat) (h : f < 256) : bits .and .u64 (f : Int) 16 = if bit8 f = true then 16 else 0 := by
  have k : ∀ x : Fin 256, bits .and .u64 (x.val : Int) 16 = if bit8 x.val = true then 16 else 0 := by decide +kernel
  exact k ⟨f, h⟩
def lenSize (f : Nat) : Nat := if bit8 f = true then 2 else 1
/-- the first raw attribute of bytes, and what is left -/
def splitStep (s : ByteArray) : Option (Rw × ByteArray) :=
  if s.size < 3 then none else
  if (nx (nx s 1) 1).size < lenSize (hd s 1) then none else
  if (nx (nx (nx s 1) 1) (lenSize (hd s 1))).size < hd (nx (nx s 1) 1) (lenSize (hd s 1)) then none else
  some (⟨UInt8.ofNat (hd s 1), UInt8.ofNat (hd (nx s 1) 1), (nx (nx (nx s 1) 1) (lenSize (hd s 1))).extract 0 (hd (nx (nx s 1) 1) (lenSize (hd s 1)))⟩, nx (nx (nx (nx s 1) 1) (lenSize (hd s 1))) (hd (nx (nx s 1) 1) (lenSize (hd s 1))))
theorem splitStep_less {s t : ByteArray} {r : Rw} (h : splitStep s = some (r, t)) : t.size < s.size := by
  unfold splitStep at h
  split at h
  · cases h
  · split at h
    · cases h
    · split at h
      · cases h
      · simp only [Option.some.injEq, Prod.mk.injEq] at h
        obtain ⟨_, rfl⟩ := h
        simp only [nx_size]
        omega
def splitF : Nat → ByteArray → Option (List Rw)
  | 0, s => if s.size = 0 then some [] else none
  | n + 1, s => if s.size = 0 then some [] else match splitStep s with
    | none => none
    | some (r, t) => (splitF n t).map (r :: ·)
theorem splitF_fuel : ∀ (n m : Nat) (s : ByteArray), s.size ≤ n → s.size ≤ m → splitF n s = splitF m s
  | 0, 0, s, _, _ => rfl
  | 0, m + 1, s, h, _ => by
    have h0 : s.size = 0 := by omega
    unfold splitF
    rw [if_pos h0, if_pos h0]
  | n + 1, 0, s, _, h => by
    have h0 : s.size = 0 := by omega
    unfold splitF
    rw [if_pos h0, if_pos h0]
  | n + 1, m + 1, s, h1, h2 => by
    unfold splitF
    by_cases h0 : s.size = 0
    · rw [if_pos h0, if_pos h0]
    · rw [if_neg h0, if_neg h0]
      cases hs : splitStep s with
      | none => rfl
      | some x =>
        obtain ⟨r, t⟩ := x
        have := splitStep_less hs
        simp only
        rw [splitF_fuel n m t (by omega) (by omega)]
/-- the raw attributes of bytes -/
def splitA (s : ByteArray) : Option (List Rw) := splitF s.size s
theorem splitA_end {s : ByteArray} (h : s.size = 0) : splitA s = some [] := by
  unfold splitA
  rw [h]
  unfold splitF
  rw [if_pos h]
theorem splitA_no {s : ByteArray} (h0 : 0 < s.size) (h : splitStep s = none) : splitA s = none := by
  unfold splitA
  obtain ⟨n, hn⟩ : ∃ n, s.size = n + 1 := ⟨s.size - 1, by omega⟩
  rw [hn]
  unfold splitF
  rw [if_neg (by omega), h]
theorem splitA_step {s t : ByteArray} {r : Rw} (h0 : 0 < s.size) (h : splitStep s = some (r, t)) : splitA s = (splitA t).map (r :: ·) := by
  have hl := splitStep_less h
  unfold splitA
  obtain ⟨n, hn⟩ : ∃ n, s.size = n + 1 := ⟨s.size - 1, by omega⟩
  rw [hn]
  show (if s.size = 0 then some [] else match splitStep s with
    | none => none
    | some (r, t) => (splitF n t).map (r :: ·)) = _
  rw [if_neg (by omega), h]
  simp only
  rw [splitF_fuel n t.size t (by omega) (Nat.le_refl _)]
theorem split_go {s t u : ByteArray} {L : List Rw} {r : Rw} (h : splitA s = (splitA t).map (L ++ ·)) (h0 : 0 < t.size) (hs : splitStep t = some (r, u)) : splitA s = (splitA u).map ((L ++ [r]) ++ ·) := by
  rw [h, splitA_step h0 hs, Option.map_map]
  congr 1
  funext m
  simp
theorem split_no {s t : ByteArray} {L : List Rw} (h : splitA s = (splitA t).map (L ++ ·)) (h0 : 0 < t.size) (hs : splitStep t = none) : splitA s = none := by
  rw [h, splitA_no h0 hs]
  rfl
theorem split_end {s t : ByteArray} {L : List Rw} (h : splitA s = (splitA t).map (L ++ ·)) (h0 : t.size = 0) : splitA s = some L := by
  rw [h, splitA_end h0]
  simp
/-- what Split answers -/
def SplitPost (base : Nat) (res : Option (List Rw)) (w' : World) (e : Ending) : Prop := match res with
  | none => e = .returned (.tuple #[.slice none 0 0, .bool false])
  | some L => ∃ v, e = .returned (.tuple #[v, .bool true]) ∧ OwnL w' base 32 3 Rw.cs v L
theorem infoRaw : (Tryz.prog.info? 32).map (fun i => (i.zero, i.size, i.bytes)) = some (some (.agg #[.int .u8 0, .int .u8 0, .string ⟨#[]⟩]), 3, 24) := by kernel_rfl
def lenV : Value → Nat
  | .slice _ n _ => n
  | _ => 0
theorem take_nx (b : Nat) (s : ByteArray) (n : Nat) (w : World) (h : RdAt w b s) (h1 : n ≤ s.size) (hm : (s.size : Int) ≤ 140737488351232) :
    Calls Tryz.prog 36 #[.pointer (some ⟨b, 0, none⟩), .int .i64 (n : Nat)] w fun e w' => e = .returned (.tuple #[.string (s.extract 0 n), .bool true]) ∧ RdAt w' b (nx s n) ∧ w.grownBy w' (some b) :=
  (take_ok b s n w h (by omega) (by omega) (by omega)).mono fun e w' ⟨h2, h3⟩ => by
    rw [Int.toNat_natCast] at h2 h3
    subst h3
    exact ⟨h2, h.set _, grown_setCell _ _ _⟩
theorem take_nothing (b : Nat) (s : ByteArray) (w : World) (h : RdAt w b s) (hm : (s.size : Int) ≤ 140737488351232) :
    Calls Tryz.prog 36 #[.pointer (some ⟨b, 0, none⟩), .int .i64 0] w fun e w' => e = .returned (.tuple #[.string (s.extract 0 0), .bool true]) ∧ RdAt w' b (nx s 0) ∧ w.grownBy w' (some b) := take_nx b s 0 w h (Nat.zero_le _) hm
theorem number_nx (b : Nat) (s : ByteArray) (n : Nat) (w : World) (h : RdAt w b s) (h0 : 1 ≤ n) (h1 : n ≤ 8) (hs : n ≤ s.size) (hm : (s.size : Int) ≤ 140737488351232) :
    Calls Tryz.prog 35 #[.pointer (some ⟨b, 0, none⟩), .int .i64 (n : Nat)] w fun e w' => e = .returned (.tuple #[.int .u64 (hd s n : Nat), .bool true]) ∧ RdAt w' b (nx s n) ∧ w.grownBy w' (some b) := number_ok b s n w h h0 h1 hs (by omega)
theorem RdAt.own {w w' : World} {b : Nat} {s : ByteArray} {row : Option Nat} (h : RdAt w b s) (hg : w.grownBy w' row) (hb : some b ≠ row) : RdAt w' b s := (hg.block b h.lt hb).trans h
theorem OwnL.grown {α : Type} {w w' : World} {base : Nat} {e : TypeId} {C : Nat} {F : α → List Value} {v : Value} {xs : List α} {row : Option Nat} (h : OwnL w base e C F v xs) (hg : w.grownBy w' row) (hne : ∀ k, row = some k → k < base) : OwnL w' base e C F v xs :=
  OwnM.grown h hg (fun k hk e2 => by
    have h1 := (OwnM.lt h k hk).1
    have h2 := hne k e2.symm
    omega)
set_option maxRecDepth 100000 in
set_option maxHeartbeats 16000000 in
theorem split_any (s : ByteArray) (w : World) (hm0 : (s.size : Int) ≤ 1048576) :
    Calls Tryz.prog 17 #[.string s] w fun e w' => SplitPost (w.heap.size + 1) (splitA s) w' e ∧ Below w.heap.size w w' := by
  obtain ⟨i0, hi, hz0, hz1, hz2⟩ := info_parts infoRaw
  have HI := Lib.hid hi
  have HZ0 := Lib.hid hz0
  have HZ1 := Lib.hid hz1
  have HZ2 := Lib.hid hz2
  have HNO := Lib.hid number_nx
  have HNS := Lib.hid number_short
  have HTO := Lib.hid take_nx
  have HT0 := Lib.hid take_nothing
  have HTN := Lib.hid take_no
  clear hi hz0 hz1 hz2
  generalize hres : splitA s = res
  have HRES := Lib.hid hres
  clear hres
  go_enter Tryz.func17, Tryz.ntmps17
  go_wp2_with fail
  refine (new_any s _).mono ?_
  rintro e w' ⟨rfl, rfl⟩
  have HR0 : Hid (RdAt (w.alloc (.cells #[.bool true, .string s] 110)) w.heap.size s) := heap_alloc_new w _
  have HB0 : Hid (Below w.heap.size w (w.alloc (.cells #[.bool true, .string s] 110))) := (Below.refl _ _).alloc (Nat.le_refl _) _
  have hsz0 : w.heap.size + 1 ≤ (w.alloc (.cells #[.bool true, .string s] 110)).heap.size := by simp
  generalize w.alloc (.cells #[.bool true, .string s] 110) = W0 at HR0 HB0 hsz0 ⊢
  go_wp2_with fail
  go_loopw [5] (fun ov wr => ∃ (L : List Rw) (t : ByteArray), Hid (OwnL wr (w.heap.size + 1) 32 3 Rw.cs ov L) ∧ Hid (RdAt wr w.heap.size t) ∧ Hid (Below w.heap.size w wr) ∧ Hid (splitA s = (splitA t).map (L ++ ·)) ∧ t.size + L.length ≤ s.size ∧ w.heap.size + 1 ≤ wr.heap.size) (fun o _ => s.size + 1 - lenV o)
  case atStart => exact ⟨[], s, OwnL.nil _ _ _ _ _, HR0.out, HB0.out, by show _ = _; simp, by simp, hsz0⟩
  case round =>
    obtain ⟨L, t, HO, HRd, HB, HSP, hsum, hbase⟩ := hrel
    obtain ⟨A, c, rfl⟩ := HO.out.form
    by_cases h0 : t.size = 0
    case pos =>
      have HF : Hid (res = some L) := by show _ = _; rw [← HRES.out]; exact split_end HSP.out h0
      clear HSP
      have h0' : ¬ 0 < (t.size : Int) := by omega
      clear h0
      go_wp2_with fail
      refine (left_any _ t _ HRd.out).mono ?_
      rintro e w1 ⟨rfl, rfl⟩
      go_wp2_with fail
      go_ret2
      exact ⟨by rw [HF.out]; exact ⟨_, rfl, HO.out⟩, HB.out⟩
    have h0' : 0 < (t.size : Int) := by omega
    have h0n : 0 < t.size := by omega
    clear h0
    have hmt : (t.size : Int) ≤ 140737488351232 := by omega
    have HST : Hid (splitStep t = if t.size < 3 then none else
      if (nx (nx t 1) 1).size < lenSize (hd t 1) then none else
      if (nx (nx (nx t 1) 1) (lenSize (hd t 1))).size < hd (nx (nx t 1) 1) (lenSize (hd t 1)) then none else
      some (⟨UInt8.ofNat (hd t 1), UInt8.ofNat (hd (nx t 1) 1), (nx (nx (nx t 1) 1) (lenSize (hd t 1))).extract 0 (hd (nx (nx t 1) 1) (lenSize (hd t 1)))⟩, nx (nx (nx (nx t 1) 1) (lenSize (hd t 1))) (hd (nx (nx t 1) 1) (lenSize (hd t 1))))) := rfl
    have HNN : Hid (splitStep t = none → res = none) := fun h => by rw [← HRES.out]; exact split_no HSP.out h0n h
    go_wp2_with fail
    refine (left_any _ t _ HRd.out).mono ?_
    rintro e w1 ⟨rfl, rfl⟩
    go_wp2_with fail
    refine (HNO.out _ t 1 _ HRd.out (by omega) (by omega) (by omega) hmt).mono ?_
    rintro e v1 ⟨rfl, hr, hg⟩
    obtain ⟨t1, et1⟩ : ∃ u, u = nx t 1 := ⟨_, rfl⟩
    obtain ⟨f, ef⟩ : ∃ v, v = hd t 1 := ⟨_, rfl⟩
    have hst1 : t1.size + 1 = t.size := by rw [et1, nx_size]; omega
    rw [← et1] at hr
    rw [← ef]
    have HEt1 := Lib.hid et1
    have HKf := Lib.hid ef
    have flt : f < 256 := by rw [ef]; exact hd_one _
    have HRdt1 : Hid (RdAt v1 w.heap.size t1) := hr
    have hmt1 : (t1.size : Int) ≤ 140737488351232 := by omega
    have HB1 : Hid (Below w.heap.size w v1) := HB.out.grown hg HB.out.size (fun k hk => by cases hk; exact Nat.le_refl _)
    have HO1 : Hid (OwnL v1 (w.heap.size + 1) 32 3 Rw.cs (.slice A L.length c) L) := HO.out.grown hg (fun k hk => by cases hk; omega)
    have hbase1 : w.heap.size + 1 ≤ v1.heap.size := Nat.le_trans hbase hg.size
    have hzt1 := Lib.hid hst1
    clear et1 ef hr hg hst1
    have hand := and16 f flt
    by_cases h3 : t.size < 3
    case pos =>
      by_cases h2 : t1.size = 0
      · have h2' : t1.size < 1 := by omega
        go_wp2_with fail
        refine (HNS.out _ t1 1 _ HRdt1.out (by omega) (by omega) (by omega) (by omega)).mono ?_
        rintro e v2 ⟨rfl, hr, hg⟩
        have HRdt1 : Hid (RdAt v2 w.heap.size t1) := hr
        have HB2 : Hid (Below w.heap.size w v2) := HB1.out.grown hg HB1.out.size (fun k hk => by cases hk; exact Nat.le_refl _)
        have HO2 : Hid (OwnL v2 (w.heap.size + 1) 32 3 Rw.cs (.slice A L.length c) L) := HO1.out.grown hg (fun k hk => by cases hk; omega)
        have hbase2 : w.heap.size + 1 ≤ v2.heap.size := Nat.le_trans hbase1 hg.size
        clear hr hg
        cases hbit : bit8 f with
        | true =>
          rw [hbit, if_pos rfl] at hand
          go_wp2_with fail
          refine (HNS.out _ t1 2 _ HRdt1.out (by omega) (by omega) (by omega) (by omega)).mono ?_
          rintro e v3 ⟨rfl, hr, hg⟩
          have HRdt1 : Hid (RdAt v3 w.heap.size t1) := hr
          have HB3 : Hid (Below w.heap.size w v3) := HB2.out.grown hg HB2.out.size (fun k hk => by cases hk; exact Nat.le_refl _)
          have HO3 : Hid (OwnL v3 (w.heap.size + 1) 32 3 Rw.cs (.slice A L.length c) L) := HO2.out.grown hg (fun k hk => by cases hk; omega)
          have hbase3 : w.heap.size + 1 ≤ v3.heap.size := Nat.le_trans hbase2 hg.size
          clear hr hg
          go_wp2_with fail
          refine (HT0.out _ t1 _ HRdt1.out hmt1).mono ?_
          rintro e v4 ⟨rfl, hr, hg⟩
          have HB4 : Hid (Below w.heap.size w v4) := HB3.out.grown hg HB3.out.size (fun k hk => by cases hk; exact Nat.le_refl _)
          have HO4 : Hid (OwnL v4 (w.heap.size + 1) 32 3 Rw.cs (.slice A L.length c) L) := HO3.out.grown hg (fun k hk => by cases hk; omega)
          have hbase4 : w.heap.size + 1 ≤ v4.heap.size := Nat.le_trans hbase3 hg.size
          clear hr hg
          have HN : Hid (res = none) := HNN.out (by rw [HST.out]; rw [if_pos h3])
          go_wp2_with fail
          go_ret2
          exact ⟨by rw [HN.out]; rfl, HB4.out⟩
        | false =>
          rw [hbit, if_neg (by simp)] at hand
          go_wp2_with fail
          refine (HNS.out _ t1 1 _ HRdt1.out (by omega) (by omega) (by omega) (by omega)).mono ?_
          rintro e v3 ⟨rfl, hr, hg⟩
          have HRdt1 : Hid (RdAt v3 w.heap.size t1) := hr
          have HB3 : Hid (Below w.heap.size w v3) := HB2.out.grown hg HB2.out.size (fun k hk => by cases hk; exact Nat.le_refl _)
          have HO3 : Hid (OwnL v3 (w.heap.size + 1) 32 3 Rw.cs (.slice A L.length c) L) := HO2.out.grown hg (fun k hk => by cases hk; omega)
          have hbase3 : w.heap.size + 1 ≤ v3.heap.size := Nat.le_trans hbase2 hg.size
          clear hr hg
          go_wp2_with fail
          refine (HT0.out _ t1 _ HRdt1.out hmt1).mono ?_
          rintro e v4 ⟨rfl, hr, hg⟩
          have HB4 : Hid (Below w.heap.size w v4) := HB3.out.grown hg HB3.out.size (fun k hk => by cases hk; exact Nat.le_refl _)
          have HO4 : Hid (OwnL v4 (w.heap.size + 1) 32 3 Rw.cs (.slice A L.length c) L) := HO3.out.grown hg (fun k hk => by cases hk; omega)
          have hbase4 : w.heap.size + 1 ≤ v4.heap.size := Nat.le_trans hbase3 hg.size
          clear hr hg
          have HN : Hid (res = none) := HNN.out (by rw [HST.out]; rw [if_pos h3])
          go_wp2_with fail
          go_ret2
          exact ⟨by rw [HN.out]; rfl, HB4.out⟩
      · have h2' : 1 ≤ t1.size := by omega
        have h2e : t1.size = 1 := by have := hzt1.out; omega
        have h2l : t1.size < 2 := by omega
        go_wp2_with fail
        refine (HNO.out _ t1 1 _ HRdt1.out (by omega) (by omega) (by omega) hmt1).mono ?_
        rintro e v2 ⟨rfl, hr, hg⟩
        obtain ⟨t2, et2⟩ : ∃ u, u = nx t1 1 := ⟨_, rfl⟩
        obtain ⟨k, ek⟩ : ∃ v, v = hd t1 1 := ⟨_, rfl⟩
        have hst2 : t2.size + 1 = t1.size := by rw [et2, nx_size]; omega
        rw [← et2] at hr
        rw [← ek]
        have HEt2 := Lib.hid et2
        have HKk := Lib.hid ek
        have klt : k < 256 := by rw [ek]; exact hd_one _
        have HRdt2 : Hid (RdAt v2 w.heap.size t2) := hr
        have hmt2 : (t2.size : Int) ≤ 140737488351232 := by omega
        have HB2 : Hid (Below w.heap.size w v2) := HB1.out.grown hg HB1.out.size (fun k hk => by cases hk; exact Nat.le_refl _)
        have HO2 : Hid (OwnL v2 (w.heap.size + 1) 32 3 Rw.cs (.slice A L.length c) L) := HO1.out.grown hg (fun k hk => by cases hk; omega)
        have hbase2 : w.heap.size + 1 ≤ v2.heap.size := Nat.le_trans hbase1 hg.size
        have hzt2 := Lib.hid hst2
        clear et2 ek hr hg hst2
        have ht2 : t2.size < 1 := by have := hzt2.out; omega
        have h2e := Lib.hid h2e
        clear h2l
        cases hbit : bit8 f with
        | true =>
          rw [hbit, if_pos rfl] at hand
          go_wp2_with fail
          refine (HNS.out _ t2 2 _ HRdt2.out (by omega) (by omega) (by omega) (by omega)).mono ?_
          rintro e v3 ⟨rfl, hr, hg⟩
          have HRdt2 : Hid (RdAt v3 w.heap.size t2) := hr
          have HB3 : Hid (Below w.heap.size w v3) := HB2.out.grown hg HB2.out.size (fun k hk => by cases hk; exact Nat.le_refl _)
          have HO3 : Hid (OwnL v3 (w.heap.size + 1) 32 3 Rw.cs (.slice A L.length c) L) := HO2.out.grown hg (fun k hk => by cases hk; omega)
          have hbase3 : w.heap.size + 1 ≤ v3.heap.size := Nat.le_trans hbase2 hg.size
          clear hr hg
          go_wp2_with fail
          refine (HT0.out _ t2 _ HRdt2.out hmt2).mono ?_
          rintro e v4 ⟨rfl, hr, hg⟩
          have HB4 : Hid (Below w.heap.size w v4) := HB3.out.grown hg HB3.out.size (fun k hk => by cases hk; exact Nat.le_refl _)
          have HO4 : Hid (OwnL v4 (w.heap.size + 1) 32 3 Rw.cs (.slice A L.length c) L) := HO3.out.grown hg (fun k hk => by cases hk; omega)
          have hbase4 : w.heap.size + 1 ≤ v4.heap.size := Nat.le_trans hbase3 hg.size
          clear hr hg
          have HN : Hid (res = none) := HNN.out (by rw [HST.out]; rw [if_pos h3])
          go_wp2_with fail
          go_ret2
          exact ⟨by rw [HN.out]; rfl, HB4.out⟩
        | false =>
          rw [hbit, if_neg (by simp)] at hand
          go_wp2_with fail
          refine (HNS.out _ t2 1 _ HRdt2.out (by omega) (by omega) (by omega) (by omega)).mono ?_
          rintro e v3 ⟨rfl, hr, hg⟩
          have HRdt2 : Hid (RdAt v3 w.heap.size t2) := hr
          have HB3 : Hid (Below w.heap.size w v3) := HB2.out.grown hg HB2.out.size (fun k hk => by cases hk; exact Nat.le_refl _)
          have HO3 : Hid (OwnL v3 (w.heap.size + 1) 32 3 Rw.cs (.slice A L.length c) L) := HO2.out.grown hg (fun k hk => by cases hk; omega)
          have hbase3 : w.heap.size + 1 ≤ v3.heap.size := Nat.le_trans hbase2 hg.size
          clear hr hg
          go_wp2_with fail
          refine (HT0.out _ t2 _ HRdt2.out hmt2).mono ?_
          rintro e v4 ⟨rfl, hr, hg⟩
          have HB4 : Hid (Below w.heap.size w v4) := HB3.out.grown hg HB3.out.size (fun k hk => by cases hk; exact Nat.le_refl _)
          have HO4 : Hid (OwnL v4 (w.heap.size + 1) 32 3 Rw.cs (.slice A L.length c) L) := HO3.out.grown hg (fun k hk => by cases hk; omega)
          have hbase4 : w.heap.size + 1 ≤ v4.heap.size := Nat.le_trans hbase3 hg.size
          clear hr hg
          have HN : Hid (res = none) := HNN.out (by rw [HST.out]; rw [if_pos h3])
          go_wp2_with fail
          go_ret2
          exact ⟨by rw [HN.out]; rfl, HB4.out⟩
    have h1t : 1 ≤ t1.size := by have := hzt1.out; omega
    go_wp2_with fail
    refine (HNO.out _ t1 1 _ HRdt1.out (by omega) (by omega) (by omega) hmt1).mono ?_
    rintro e v2 ⟨rfl, hr, hg⟩
    obtain ⟨t2, et2⟩ : ∃ u, u = nx t1 1 := ⟨_, rfl⟩
    obtain ⟨k, ek⟩ : ∃ v, v = hd t1 1 := ⟨_, rfl⟩
    have hst2 : t2.size + 1 = t1.size := by rw [et2, nx_size]; omega
    rw [← et2] at hr
    rw [← ek]
    have HEt2 := Lib.hid et2
    have HKk := Lib.hid ek
    have klt : k < 256 := by rw [ek]; exact hd_one _
    have HRdt2 : Hid (RdAt v2 w.heap.size t2) := hr
    have hmt2 : (t2.size : Int) ≤ 140737488351232 := by omega
    have HB2 : Hid (Below w.heap.size w v2) := HB1.out.grown hg HB1.out.size (fun k hk => by cases hk; exact Nat.le_refl _)
    have HO2 : Hid (OwnL v2 (w.heap.size + 1) 32 3 Rw.cs (.slice A L.length c) L) := HO1.out.grown hg (fun k hk => by cases hk; omega)
    have hbase2 : w.heap.size + 1 ≤ v2.heap.size := Nat.le_trans hbase1 hg.size
    have hzt2 := Lib.hid hst2
    clear et2 ek hr hg hst2
    have h2t : 1 ≤ t2.size := by have := hzt1.out; have := hzt2.out; omega
    have HSU : Hid (splitStep t = if t2.size < lenSize f then none else if (nx t2 (lenSize f)).size < hd t2 (lenSize f) then none else some (⟨UInt8.ofNat f, UInt8.ofNat k, (nx t2 (lenSize f)).extract 0 (hd t2 (lenSize f))⟩, nx (nx t2 (lenSize f)) (hd t2 (lenSize f)))) := by
      show _ = _
      rw [HST.out, if_neg h3, HEt2.out, HKk.out, HEt1.out, HKf.out]
    clear HST h3
    cases hbit : bit8 f with
    | true =>
      rw [hbit, if_pos rfl] at hand
      have hls : lenSize f = 2 := by unfold lenSize; rw [hbit]; rfl
      rw [hls] at HSU
      clear hls hbit
      by_cases h4 : t2.size < 2
      case pos =>
        go_wp2_with fail
        refine (HNS.out _ t2 2 _ HRdt2.out (by omega) (by omega) (by omega) (by omega)).mono ?_
        rintro e v3 ⟨rfl, hr, hg⟩
        have HRdt2 : Hid (RdAt v3 w.heap.size t2) := hr
        have HB3 : Hid (Below w.heap.size w v3) := HB2.out.grown hg HB2.out.size (fun k hk => by cases hk; exact Nat.le_refl _)
        have HO3 : Hid (OwnL v3 (w.heap.size + 1) 32 3 Rw.cs (.slice A L.length c) L) := HO2.out.grown hg (fun k hk => by cases hk; omega)
        have hbase3 : w.heap.size + 1 ≤ v3.heap.size := Nat.le_trans hbase2 hg.size
        clear hr hg
        go_wp2_with fail
        refine (HT0.out _ t2 _ HRdt2.out hmt2).mono ?_
        rintro e v4 ⟨rfl, hr, hg⟩
        have HB4 : Hid (Below w.heap.size w v4) := HB3.out.grown hg HB3.out.size (fun k hk => by cases hk; exact Nat.le_refl _)
        have HO4 : Hid (OwnL v4 (w.heap.size + 1) 32 3 Rw.cs (.slice A L.length c) L) := HO3.out.grown hg (fun k hk => by cases hk; omega)
        have hbase4 : w.heap.size + 1 ≤ v4.heap.size := Nat.le_trans hbase3 hg.size
        clear hr hg
        have HN : Hid (res = none) := HNN.out (by rw [HSU.out, if_pos h4])
        go_wp2_with fail
        go_ret2
        exact ⟨by rw [HN.out]; rfl, HB4.out⟩
      have h4' : 2 ≤ t2.size := by omega
      clear h4
      go_wp2_with fail
      refine (HNO.out _ t2 2 _ HRdt2.out (by omega) (by omega) (by omega) hmt2).mono ?_
      rintro e v3 ⟨rfl, hr, hg⟩
      obtain ⟨t3, et3⟩ : ∃ u, u = nx t2 2 := ⟨_, rfl⟩
      obtain ⟨n, en⟩ : ∃ v, v = hd t2 2 := ⟨_, rfl⟩
      have hst3 : t3.size + 2 = t2.size := by rw [et3, nx_size]; omega
      rw [← et3] at hr
      rw [← en]
      have HEt3 := Lib.hid et3
      have HKn := Lib.hid en
      have nlt : n < 65536 := by rw [en]; exact hd_two _
      have HRdt3 : Hid (RdAt v3 w.heap.size t3) := hr
      have hmt3 : (t3.size : Int) ≤ 140737488351232 := by omega
      have HB3 : Hid (Below w.heap.size w v3) := HB2.out.grown hg HB2.out.size (fun k hk => by cases hk; exact Nat.le_refl _)
      have HO3 : Hid (OwnL v3 (w.heap.size + 1) 32 3 Rw.cs (.slice A L.length c) L) := HO2.out.grown hg (fun k hk => by cases hk; omega)
      have hbase3 : w.heap.size + 1 ≤ v3.heap.size := Nat.le_trans hbase2 hg.size
      have hzt3 := Lib.hid hst3
      clear et3 en hr hg hst3
      have HSV : Hid (splitStep t = if t3.size < n then none else some (⟨UInt8.ofNat f, UInt8.ofNat k, t3.extract 0 n⟩, nx t3 n)) := by
        show _ = _
        rw [HSU.out, if_neg (by omega), HEt3.out, HKn.out]
      clear HSU
      by_cases h5 : t3.size < n
      case pos =>
        have hn5 : (t3.size : Int) < (n : Int) := by omega
        have HN : Hid (res = none) := HNN.out (by rw [HSV.out, if_pos h5])
        go_wp2_with fail
        refine (HTN.out _ t3 n _ HRdt3.out (.inr hn5) (by omega)).mono ?_
        rintro e v4 ⟨rfl, rfl⟩
        go_wp2_with fail
        go_ret2
        exact ⟨by rw [HN.out]; rfl, HB3.out⟩
      rw [if_neg h5] at HSV
      have h5' : n ≤ t3.size := by omega
      clear h5
      go_wp2_with fail
      refine (HTO.out _ t3 n _ HRdt3.out h5' hmt3).mono ?_
      rintro e v4 ⟨rfl, hr, hg⟩
      obtain ⟨t4, et4⟩ : ∃ u, u = nx t3 n := ⟨_, rfl⟩
      obtain ⟨val, eval⟩ : ∃ u, u = t3.extract 0 n := ⟨_, rfl⟩
      rw [← et4] at hr
      rw [← eval]
      rw [← et4, ← eval] at HSV
      have HRdt4 : Hid (RdAt v4 w.heap.size t4) := hr
      have HB4 : Hid (Below w.heap.size w v4) := HB3.out.grown hg HB3.out.size (fun k hk => by cases hk; exact Nat.le_refl _)
      have HO4 : Hid (OwnL v4 (w.heap.size + 1) 32 3 Rw.cs (.slice A L.length c) L) := HO3.out.grown hg (fun k hk => by cases hk; omega)
      have hbase4 : w.heap.size + 1 ≤ v4.heap.size := Nat.le_trans hbase3 hg.size
      have hst4 : t4.size + (1 + 1 + 2 + n) = t.size := by
        have := hzt1.out
        have := hzt2.out
        have := hzt3.out
        rw [et4, nx_size]
        omega
      have HGO := Lib.hid (split_go HSP.out h0n HSV.out)
      obtain ⟨x, hx⟩ : ∃ x : Rw, x = ⟨UInt8.ofNat f, UInt8.ofNat k, val⟩ := ⟨_, rfl⟩
      rw [← hx] at HGO
      have HXC : Hid ([.int .u8 (f : Nat), .int .u8 (k : Nat), .string val] = x.cs) := by
        show _ = _
        rw [hx]
        show _ = [Value.int .u8 ((UInt8.ofNat f).toNat : Nat), .int .u8 ((UInt8.ofNat k).toNat : Nat), .string val]
        rw [show (UInt8.ofNat f).toNat = f by rw [UInt8.toNat_ofNat']; omega, show (UInt8.ofNat k).toNat = k by rw [UInt8.toNat_ofNat']; omega]
      have hsum2 : t4.size + (L.length + 1) ≤ s.size := by omega
      clear hr hg et4 eval hx hst4 HSP HRES HNN
      have HCB : Hid (CellsAt (v4.alloc (.cells #[.int .u8 (f : Nat), .int .u8 (k : Nat), .string val] 32)) v4.heap.size #[.int .u8 (f : Nat), .int .u8 (k : Nat), .string val] 32) := CellsAt.new _ _ _
      have HS := Lib.hid (Src.block (P := Tryz.prog) (t2 := 22) (size := 3) (m := 1) (c := 1) Tryz.underlying22 HCB.out rfl (by simp [Value.oneCell']))
      have HOa := Lib.hid (HO4.out.alloc (.cells #[.int .u8 (f : Nat), .int .u8 (k : Nat), .string val] 32))
      have HRa : Hid (RdAt (v4.alloc (.cells #[.int .u8 (f : Nat), .int .u8 (k : Nat), .string val] 32)) w.heap.size t4) := (Below.heap_alloc _ _ _ HRdt4.out.lt).trans HRdt4.out
      have HBS : Hid (w.heap.size + 1 ≤ (v4.alloc (.cells #[.int .u8 (f : Nat), .int .u8 (k : Nat), .string val] 32)).heap.size) := by show _ ≤ _; simp; omega
      have HBa : Hid (Below w.heap.size w (v4.alloc (.cells #[.int .u8 (f : Nat), .int .u8 (k : Nat), .string val] 32))) := HB4.out.alloc HB4.out.size _
      have HM : Hid (L.length + 1 ≤ maxLen) := by show _ ≤ _; unfold maxLen; omega
      have HY : Hid ((L.length + 1) * 24 ≤ 140737488355328) := by show _ ≤ _; omega
      go_wp2_with (at_builtin; refine wpList_append_m rfl (.tmp 52) (.tmp 59) 22 22 rfl (w.heap.size + 1) 32 i0 _ 3 24 Tryz.underlying22 HI.out HZ0.out HZ1.out HZ2.out rfl (by decide) (.slice A L.length c) L.length (L.flatMap Rw.cs) rfl HOa.out _ 1 _ rfl HS.out HM.out HY.out HBS.out ?_)
      intro v' w5 hown hgr hat
      obtain ⟨A6, c6, rfl⟩ := hown.form
      have HN5 : Hid (OwnL w5 (w.heap.size + 1) 32 3 Rw.cs (.slice A6 (L.length + 1) c6) (L ++ [x])) := OwnL.snoc (by rw [← HXC.out]; exact hown)
      have HB5 : Hid (Below w.heap.size w w5) := OwnM.below_grown HOa.out hgr HBa.out (by have := HBS.out; omega) (by omega)
      have HR5 : Hid (RdAt w5 w.heap.size t4) := HRa.out.own hgr (fun e => by
        have := (OwnM.lt HOa.out w.heap.size e.symm).1
        omega)
      have hb5 : w.heap.size + 1 ≤ w5.heap.size := Nat.le_trans HBS.out hgr.size
      clear hown hgr hat
      go_wp2_with fail
      exact ⟨⟨L ++ [x], t4, HN5.out, HR5.out, HB5.out, HGO.out, by rw [List.length_append]; exact hsum2, hb5⟩, by simp [lenV]; omega⟩
    | false =>
      rw [hbit, if_neg (by simp)] at hand
      have hls : lenSize f = 1 := by unfold lenSize; rw [hbit]; rfl
      rw [hls] at HSU
      clear hls hbit
      go_wp2_with fail
      refine (HNO.out _ t2 1 _ HRdt2.out (by omega) (by omega) (by omega) hmt2).mono ?_
      rintro e v3 ⟨rfl, hr, hg⟩
      obtain ⟨t3, et3⟩ : ∃ u, u = nx t2 1 := ⟨_, rfl⟩
      obtain ⟨n, en⟩ : ∃ v, v = hd t2 1 := ⟨_, rfl⟩
      have hst3 : t3.size + 1 = t2.size := by rw [et3, nx_size]; omega
      rw [← et3] at hr
      rw [← en]
      have HEt3 := Lib.hid et3
      have HKn := Lib.hid en
      have nlt : n < 256 := by rw [en]; exact hd_one _
      have HRdt3 : Hid (RdAt v3 w.heap.size t3) := hr
      have hmt3 : (t3.size : Int) ≤ 140737488351232 := by omega
      have HB3 : Hid (Below w.heap.size w v3) := HB2.out.grown hg HB2.out.size (fun k hk => by cases hk; exact Nat.le_refl _)
      have HO3 : Hid (OwnL v3 (w.heap.size + 1) 32 3 Rw.cs (.slice A L.length c) L) := HO2.out.grown hg (fun k hk => by cases hk; omega)
      have hbase3 : w.heap.size + 1 ≤ v3.heap.size := Nat.le_trans hbase2 hg.size
      have hzt3 := Lib.hid hst3
      clear et3 en hr hg hst3
      have HSV : Hid (splitStep t = if t3.size < n then none else some (⟨UInt8.ofNat f, UInt8.ofNat k, t3.extract 0 n⟩, nx t3 n)) := by
        show _ = _
        rw [HSU.out, if_neg (by omega), HEt3.out, HKn.out]
      clear HSU
      by_cases h5 : t3.size < n
      case pos =>
        have hn5 : (t3.size : Int) < (n : Int) := by omega
        have HN : Hid (res = none) := HNN.out (by rw [HSV.out, if_pos h5])
        go_wp2_with fail
        refine (HTN.out _ t3 n _ HRdt3.out (.inr hn5) (by omega)).mono ?_
        rintro e v4 ⟨rfl, rfl⟩
        go_wp2_with fail
        go_ret2
        exact ⟨by rw [HN.out]; rfl, HB3.out⟩
      rw [if_neg h5] at HSV
      have h5' : n ≤ t3.size := by omega
      clear h5
      go_wp2_with fail
      refine (HTO.out _ t3 n _ HRdt3.out h5' hmt3).mono ?_
      rintro e v4 ⟨rfl, hr, hg⟩
      obtain ⟨t4, et4⟩ : ∃ u, u = nx t3 n := ⟨_, rfl⟩
      obtain ⟨val, eval⟩ : ∃ u, u = t3.extract 0 n := ⟨_, rfl⟩
      rw [← et4] at hr
      rw [← eval]
      rw [← et4, ← eval] at HSV
      have HRdt4 : Hid (RdAt v4 w.heap.size t4) := hr
      have HB4 : Hid (Below w.heap.size w v4) := HB3.out.grown hg HB3.out.size (fun k hk => by cases hk; exact Nat.le_refl _)
      have HO4 : Hid (OwnL v4 (w.heap.size + 1) 32 3 Rw.cs (.slice A L.length c) L) := HO3.out.grown hg (fun k hk => by cases hk; omega)
      have hbase4 : w.heap.size + 1 ≤ v4.heap.size := Nat.le_trans hbase3 hg.size
      have hst4 : t4.size + (1 + 1 + 1 + n) = t.size := by
        have := hzt1.out
        have := hzt2.out
        have := hzt3.out
        rw [et4, nx_size]
        omega
      have HGO := Lib.hid (split_go HSP.out h0n HSV.out)
      obtain ⟨x, hx⟩ : ∃ x : Rw, x = ⟨UInt8.ofNat f, UInt8.ofNat k, val⟩ := ⟨_, rfl⟩
      rw [← hx] at HGO
      have HXC : Hid ([.int .u8 (f : Nat), .int .u8 (k : Nat), .string val] = x.cs) := by
        show _ = _
        rw [hx]
        show _ = [Value.int .u8 ((UInt8.ofNat f).toNat : Nat), .int .u8 ((UInt8.ofNat k).toNat : Nat), .string val]
        rw [show (UInt8.ofNat f).toNat = f by rw [UInt8.toNat_ofNat']; omega, show (UInt8.ofNat k).toNat = k by rw [UInt8.toNat_ofNat']; omega]
      have hsum2 : t4.size + (L.length + 1) ≤ s.size := by omega
      clear hr hg et4 eval hx hst4 HSP HRES HNN
      have HCB : Hid (CellsAt (v4.alloc (.cells #[.int .u8 (f : Nat), .int .u8 (k : Nat), .string val] 32)) v4.heap.size #[.int .u8 (f : Nat), .int .u8 (k : Nat), .string val] 32) := CellsAt.new _ _ _
      have HS := Lib.hid (Src.block (P := Tryz.prog) (t2 := 22) (size := 3) (m := 1) (c := 1) Tryz.underlying22 HCB.out rfl (by simp [Value.oneCell']))
      have HOa := Lib.hid (HO4.out.alloc (.cells #[.int .u8 (f : Nat), .int .u8 (k : Nat), .string val] 32))
      have HRa : Hid (RdAt (v4.alloc (.cells #[.int .u8 (f : Nat), .int .u8 (k : Nat), .string val] 32)) w.heap.size t4) := (Below.heap_alloc _ _ _ HRdt4.out.lt).trans HRdt4.out
      have HBS : Hid (w.heap.size + 1 ≤ (v4.alloc (.cells #[.int .u8 (f : Nat), .int .u8 (k : Nat), .string val] 32)).heap.size) := by show _ ≤ _; simp; omega
      have HBa : Hid (Below w.heap.size w (v4.alloc (.cells #[.int .u8 (f : Nat), .int .u8 (k : Nat), .string val] 32))) := HB4.out.alloc HB4.out.size _
      have HM : Hid (L.length + 1 ≤ maxLen) := by show _ ≤ _; unfold maxLen; omega
      have HY : Hid ((L.length + 1) * 24 ≤ 140737488355328) := by show _ ≤ _; omega
      go_wp2_with (at_builtin; refine wpList_append_m rfl (.tmp 52) (.tmp 59) 22 22 rfl (w.heap.size + 1) 32 i0 _ 3 24 Tryz.underlying22 HI.out HZ0.out HZ1.out HZ2.out rfl (by decide) (.slice A L.length c) L.length (L.flatMap Rw.cs) rfl HOa.out _ 1 _ rfl HS.out HM.out HY.out HBS.out ?_)
      intro v' w5 hown hgr hat
      obtain ⟨A6, c6, rfl⟩ := hown.form
      have HN5 : Hid (OwnL w5 (w.heap.size + 1) 32 3 Rw.cs (.slice A6 (L.length + 1) c6) (L ++ [x])) := OwnL.snoc (by rw [← HXC.out]; exact hown)
      have HB5 : Hid (Below w.heap.size w w5) := OwnM.below_grown HOa.out hgr HBa.out (by have := HBS.out; omega) (by omega)
      have HR5 : Hid (RdAt w5 w.heap.size t4) := HRa.out.own hgr (fun e => by
        have := (OwnM.lt HOa.out w.heap.size e.symm).1
        omega)
      have hb5 : w.heap.size + 1 ≤ w5.heap.size := Nat.le_trans HBS.out hgr.size
      clear hown hgr hat
      go_wp2_with fail
      exact ⟨⟨L ++ [x], t4, HN5.out, HR5.out, HB5.out, HGO.out, by rw [List.length_append]; exact hsum2, hb5⟩, by simp [lenV]; omega⟩
end Go.Proofs.YtkcojblflebomaaGreat
