/-
  Several texts in one.
-/
import Derived.Test.YtkcojblflebomaaGreatNR4
set_option linter.unusedVariables false
set_option linter.unusedSimpArgs false
namespace Go.Proofs.YtkcojblflebomaaGreat
open Go.RowKit Go.MapKept Go.Shelf
open Go.Lib hiding intOf

def clr8 (f : UInt8) : UInt8 := f &&& 239
def set8 (f : UInt8) : UInt8 := f ||| 16
theorem clr_bits (f : UInt8) : bits .andNot .u8 (f.toNat : Int) 16 = ((clr8 f).toNat : Int) := by
  have h : ∀ x : Fin 256, bits .andNot .u8 (x.val : Int) 16 = ((clr8 (UInt8.ofNat x.val)).toNat : Int) := by decide +kernel
  have := h ⟨f.toNat, f.toNat_lt⟩
  simpa using this
theorem set_bits (f : UInt8) : bits .or .u8 (f.toNat : Int) 16 = ((set8 f).toNat : Int) := by
  have h : ∀ x : Fin 256, bits .or .u8 (x.val : Int) 16 = ((set8 (UInt8.ofNat x.val)).toNat : Int) := by decide +kernel
  have := h ⟨f.toNat, f.toNat_lt⟩
  simpa using this
/-- a raw attribute's bytes -/
def rawB (r : Rw) : List UInt8 := (if 255 < r.v.size then [set8 r.f, r.t, UInt8.ofNat (r.v.size / 256), UInt8.ofNat r.v.size] else [clr8 r.f, r.t, UInt8.ofNat r.v.size]) ++ r.v.data.toList
theorem rawB_long {r : Rw} (h : 255 < r.v.size) : rawB r = [set8 r.f, r.t, UInt8.ofNat (r.v.size / 256), UInt8.ofNat r.v.size] ++ r.v.data.toList := by unfold rawB; rw [if_pos h]
theorem rawB_short {r : Rw} (h : ¬ 255 < r.v.size) : rawB r = [clr8 r.f, r.t, UInt8.ofNat r.v.size] ++ r.v.data.toList := by unfold rawB; rw [if_neg h]
def laysB (L : List Rw) : List UInt8 := L.flatMap rawB
theorem lays_take {L : List Rw} {k : Nat} {r : Rw} (h : L[k]? = some r) : laysB (L.take (k + 1)) = laysB (L.take k) ++ rawB r := by
  unfold laysB
  rw [List.take_add_one, h, Option.toList_some, List.flatMap_append, List.flatMap_cons, List.flatMap_nil, List.append_nil]
theorem lays_le (L : List Rw) (k : Nat) : (laysB (L.take k)).length ≤ (laysB L).length := by
  have h : laysB L = laysB (L.take k) ++ laysB (L.drop k) := by
    unfold laysB
    rw [← List.flatMap_append, List.take_append_drop]
  rw [h, List.length_append]
  omega
/-- what Lay answers -/
def layR (L : List Rw) : Value := if (laysB L).length ≤ 4077 then .tuple #[.string ⟨(laysB L).toArray⟩, .int .i64 0] else .tuple #[.string ByteArray.empty, .int .i64 3]
theorem layR_ok {L : List Rw} (h : (laysB L).length ≤ 4077) : layR L = .tuple #[.string ⟨(laysB L).toArray⟩, .int .i64 0] := if_pos h
theorem layR_no {L : List Rw} (h : 4077 < (laysB L).length) : layR L = .tuple #[.string ByteArray.empty, .int .i64 3] := if_neg (by omega)
theorem lay_no {L : List Rw} {k : Nat} {r : Rw} (h : L[k]? = some r) (h2 : 4077 < (laysB (L.take k) ++ rawB r).length) : layR L = .tuple #[.string ByteArray.empty, .int .i64 3] := layR_no (by
  rw [← lays_take h] at h2
  exact Nat.lt_of_lt_of_le h2 (lays_le L (k + 1)))
set_option maxRecDepth 100000 in
set_option maxHeartbeats 8000000 in
theorem lay_any (A : Option Addr) (cap : Nat) (L : List Rw) (w : World) (h : RwsOk w A cap L) :
    Calls Tryz.prog 13 #[.slice A L.length cap] w fun e w' => e = .returned (layR L) ∧ Below w.heap.size w w' := by
  obtain ⟨i0, hi, hz0, hz1, hz2⟩ := info_parts infoU8
  have HI := Lib.hid hi
  have HZ0 := Lib.hid hz0
  have HZ1 := Lib.hid hz1
  have HZ2 := Lib.hid hz2
  have HR := Lib.hid h
  have hl := h.len
  have hc := h.cap
  clear h hi hz0 hz1 hz2
  generalize hres : layR L = res
  have HRES := Lib.hid hres
  clear hres
  go_enter Tryz.func13, Tryz.ntmps13
  go_wp2_with fail
  go_loopw [4, 10] (fun o i wr => ∃ k : Nat, k ≤ L.length ∧ i = .int .i64 k ∧ Hid (OwnM wr w.heap.size 5 1 o (laysB (L.take k)).length (byteVals (laysB (L.take k)))) ∧ (laysB (L.take k)).length ≤ 4077 ∧ Hid (Below w.heap.size w wr)) (fun _ i _ => L.length + 1 - (intOf i).toNat)
  case atStart => exact ⟨0, by omega, rfl, OwnM.nil _ _ _ _, Nat.zero_le _, Below.refl _ _⟩
  case round =>
    obtain ⟨k, hk, rfl, HO, hle, HB⟩ := hrel
    by_cases hlt : k < L.length
    · obtain ⟨r, hr⟩ : ∃ x, L[k]? = some x := ⟨L[k], List.getElem?_eq_getElem hlt⟩
      have hrs := (HR.out.below HB.out (Nat.le_refl _)).fits r (List.mem_of_getElem? hr)
      obtain ⟨b, off, rfl, hb, c0, c1, c2⟩ := rw_at (HR.out.below HB.out (Nat.le_refl _)).rd hr
      have HX := Lib.hid hr
      have HT := Lib.hid (lays_take hr)
      have hno : Hid (4077 < (laysB (L.take k) ++ rawB r).length → res = .tuple #[.string ByteArray.empty, .int .i64 3]) := fun h => by rw [← HRES.out]; exact lay_no hr h
      clear hr
      generalize laysB (L.take k) = pre at HO hle HT hno
      obtain ⟨A2, c2', rfl⟩ := HO.out.form
      have hsw := HB.out.size
      have HBV : Hid (Below w.heap.size w (wr.alloc (.cells #[.int .u8 r.f.toNat, .int .u8 r.t.toNat, .string r.v] 32))) := HB.out.alloc hsw _
      by_cases h1 : 4077 < r.v.size
      · have HN := Lib.hid (hno.out (by rw [List.length_append]; unfold rawB; rw [List.length_append, Array.length_toList]; show 4077 < _ + (_ + r.v.size); omega))
        have h1' : 4077 < (r.v.size : Int) := by omega
        clear h1
        go_wp2_with fail
        go_ret2
        exact ⟨by rw [HN.out]; rfl, HBV.out⟩
      have h1' : ¬ 4077 < (r.v.size : Int) := by omega
      by_cases h2 : 255 < r.v.size
      · have h2' : 255 < (r.v.size : Int) := by omega
        have hb := set_bits r.f
        have hrb : Hid (rawB r = [set8 r.f, r.t, UInt8.ofNat (r.v.size / 256), UInt8.ofNat r.v.size] ++ r.v.data.toList) := rawB_long h2
        obtain ⟨q1, hq1⟩ : ∃ c, c = UInt8.ofNat (r.v.size / 256) := ⟨_, rfl⟩
        obtain ⟨q2, hq2⟩ : ∃ c, c = UInt8.ofNat r.v.size := ⟨_, rfl⟩
        have e1 : (r.v.size : Int) / 256 = (q1.toNat : Int) := by rw [hq1, UInt8.toNat_ofNat']; omega
        have e2 : (r.v.size : Int) % 256 = (q2.toNat : Int) := by rw [hq2, UInt8.toNat_ofNat']; omega
        rw [← hq1, ← hq2] at hrb
        obtain ⟨p0, hp0⟩ : ∃ c, c = set8 r.f := ⟨_, rfl⟩
        rw [← hp0] at hb hrb
        clear hq1 hq2 hp0
        have HCB : Hid (CellsAt ((wr.alloc (.cells #[.int .u8 r.f.toNat, .int .u8 r.t.toNat, .string r.v] 32)).alloc (.cells #[.int .u8 p0.toNat, .int .u8 r.t.toNat, .int .u8 q1.toNat, .int .u8 q2.toNat] 5)) (wr.heap.size + 1) #[.int .u8 p0.toNat, .int .u8 r.t.toNat, .int .u8 q1.toNat, .int .u8 q2.toNat] 5) := by
          have h := CellsAt.new (wr.alloc (.cells #[.int .u8 r.f.toNat, .int .u8 r.t.toNat, .string r.v] 32)) #[.int .u8 p0.toNat, .int .u8 r.t.toNat, .int .u8 q1.toNat, .int .u8 q2.toNat] 5
          rwa [show (wr.alloc (.cells #[.int .u8 r.f.toNat, .int .u8 r.t.toNat, .string r.v] 32)).heap.size = wr.heap.size + 1 by simp] at h
        have HC6 : Hid (CellsAt ((wr.alloc (.cells #[.int .u8 r.f.toNat, .int .u8 r.t.toNat, .string r.v] 32)).alloc (.cells #[.int .u8 p0.toNat, .int .u8 r.t.toNat, .int .u8 q1.toNat, .int .u8 q2.toNat] 5)) wr.heap.size #[.int .u8 r.f.toNat, .int .u8 r.t.toNat, .string r.v] 32) := (CellsAt.new _ _ _).alloc _
        have HOa := Lib.hid ((HO.out.alloc (.cells #[.int .u8 r.f.toNat, .int .u8 r.t.toNat, .string r.v] 32)).alloc (.cells #[.int .u8 p0.toNat, .int .u8 r.t.toNat, .int .u8 q1.toNat, .int .u8 q2.toNat] 5))
        have HBa : Hid (Below w.heap.size w ((wr.alloc (.cells #[.int .u8 r.f.toNat, .int .u8 r.t.toNat, .string r.v] 32)).alloc (.cells #[.int .u8 p0.toNat, .int .u8 r.t.toNat, .int .u8 q1.toNat, .int .u8 q2.toNat] 5))) := HBV.out.alloc (by simp; omega) _
        have HS := Lib.hid (Src.block (P := Tryz.prog) (t2 := 56) (size := 1) (m := 4) (c := 4) Tryz.underlying56 HCB.out rfl (by simp [Value.oneCell']))
        have HBS : Hid (w.heap.size ≤ ((wr.alloc (.cells #[.int .u8 r.f.toNat, .int .u8 r.t.toNat, .string r.v] 32)).alloc (.cells #[.int .u8 p0.toNat, .int .u8 r.t.toNat, .int .u8 q1.toNat, .int .u8 q2.toNat] 5)).heap.size) := by show _ ≤ _; simp; omega
        have HM : Hid (pre.length + 4 ≤ maxLen) := by show _ ≤ _; unfold maxLen; omega
        have HY : Hid ((pre.length + 4) * 1 ≤ 140737488355328) := by show _ ≤ _; omega
        go_wp2_with (at_builtin; refine wpList_append_m rfl (.tmp 21) (.tmp 32) 56 56 rfl w.heap.size 5 i0 _ 1 1 Tryz.underlying56 HI.out HZ0.out HZ1.out HZ2.out rfl (by decide) (.slice A2 pre.length c2') pre.length (byteVals pre) rfl HOa.out _ 4 _ rfl HS.out HM.out HY.out HBS.out ?_)
        intro v' w5 hown hgr hat
        obtain ⟨A6, c6, rfl⟩ := hown.form
        obtain ⟨pre2, hpre2⟩ : ∃ p, p = pre ++ [p0, r.t, q1, q2] := ⟨_, rfl⟩
        have hlp2 : pre2.length = pre.length + 4 := by rw [hpre2, List.length_append]; rfl
        have HN : Hid (OwnM w5 w.heap.size 5 1 (.slice A6 pre2.length c6) pre2.length (byteVals pre2)) := by
          show OwnM _ _ _ _ _ _ _
          rw [hlp2, hpre2, byteVals_append]
          
          exact hown
        rw [← hlp2]
        have hp2le : pre2.length ≤ 5000 := by omega
        clear hlp2
        have HB5 : Hid (Below w.heap.size w w5) := OwnM.below_grown HOa.out hgr HBa.out HBS.out (Nat.le_refl _)
        have HC65 : Hid (CellsAt w5 wr.heap.size #[.int .u8 r.f.toNat, .int .u8 r.t.toNat, .string r.v] 32) := HC6.out.own hgr (fun e => by
          have := (HO.out.lt wr.heap.size e.symm).2
          omega)
        obtain ⟨d0, d1, d2⟩ := HC65.out.c3
        have hs5 := HB5.out.size
        have HT2 : Hid (pre ++ rawB r = pre2 ++ r.v.data.toList) := by show _ = _; rw [hrb.out, hpre2, List.append_assoc]
        clear hown hgr hat hpre2 HCB HC6 HOa HBa HS HBS HM HY c0 c1 c2
        have HS2 := Lib.hid (Src.string (P := Tryz.prog) (w := w5) (t2 := 9) (s := r.v) Tryz.underlying9)
        have HM2 : Hid (pre2.length + r.v.size ≤ maxLen) := by show _ ≤ _; unfold maxLen; omega
        have HY2 : Hid ((pre2.length + r.v.size) * 1 ≤ 140737488355328) := by show _ ≤ _; omega
        go_wp2_with (at_builtin; refine wpList_append_m rfl (.tmp 44) (.tmp 46) 56 9 rfl w.heap.size 5 i0 _ 1 1 Tryz.underlying56 HI.out HZ0.out HZ1.out HZ2.out rfl (by decide) (.slice A6 pre2.length c6) pre2.length (byteVals pre2) rfl HN.out _ r.v.size _ rfl HS2.out HM2.out HY2.out hs5 ?_)
        intro v' w6 hown hgr hat
        obtain ⟨A7, c7, rfl⟩ := hown.form
        obtain ⟨pre3, hpre3⟩ : ∃ p, p = pre2 ++ r.v.data.toList := ⟨_, rfl⟩
        have hlp3 : pre3.length = pre2.length + r.v.size := by rw [hpre3, List.length_append, Array.length_toList]; rfl
        have HN3 : Hid (OwnM w6 w.heap.size 5 1 (.slice A7 pre3.length c7) pre3.length (byteVals pre3)) := by
          show OwnM _ _ _ _ _ _ _
          rw [hlp3, hpre3, byteVals_append]
          exact hown
        rw [← hlp3]
        have hp3le : pre3.length ≤ 20000 := by omega
        clear hlp3
        have HB6 : Hid (Below w.heap.size w w6) := OwnM.below_grown HN.out hgr HB5.out hs5 (Nat.le_refl _)
        rw [HT2.out, ← hpre3] at hno HT
        clear hown hgr hat hpre3 HS2 HM2 HY2 d0 d1 d2
        by_cases h3 : 4077 < pre3.length
        · have HN4 := Lib.hid (hno.out h3)
          have h3' : 4077 < (pre3.length : Int) := by omega
          clear h3
          go_wp2_with fail
          go_ret2
          exact ⟨by rw [HN4.out]; rfl, HB6.out⟩
        · have h3' : ¬ 4077 < (pre3.length : Int) := by omega
          go_wp2_with fail
          exact ⟨⟨k + 1, by omega, by go_num, by rw [HT.out]; exact HN3.out, by rw [HT.out]; omega, HB6.out⟩, by simp [intOf]; omega⟩
      · have h2' : ¬ 255 < (r.v.size : Int) := by omega
        have hb := clr_bits r.f
        have hrb : Hid (rawB r = [clr8 r.f, r.t, UInt8.ofNat r.v.size] ++ r.v.data.toList) := rawB_short h2
        obtain ⟨q2, hq2⟩ : ∃ c, c = UInt8.ofNat r.v.size := ⟨_, rfl⟩
        have e2 : Hid ((r.v.size : Int) = (q2.toNat : Int)) := by show _ = _; rw [hq2, UInt8.toNat_ofNat']; omega
        rw [← hq2] at hrb
        obtain ⟨p0, hp0⟩ : ∃ c, c = clr8 r.f := ⟨_, rfl⟩
        rw [← hp0] at hb hrb
        clear hq2 hp0
        have HCB : Hid (CellsAt ((wr.alloc (.cells #[.int .u8 r.f.toNat, .int .u8 r.t.toNat, .string r.v] 32)).alloc (.cells #[.int .u8 p0.toNat, .int .u8 r.t.toNat, .int .u8 (r.v.size : Int)] 5)) (wr.heap.size + 1) #[.int .u8 p0.toNat, .int .u8 r.t.toNat, .int .u8 (r.v.size : Int)] 5) := by
          have h := CellsAt.new (wr.alloc (.cells #[.int .u8 r.f.toNat, .int .u8 r.t.toNat, .string r.v] 32)) #[.int .u8 p0.toNat, .int .u8 r.t.toNat, .int .u8 (r.v.size : Int)] 5
          rwa [show (wr.alloc (.cells #[.int .u8 r.f.toNat, .int .u8 r.t.toNat, .string r.v] 32)).heap.size = wr.heap.size + 1 by simp] at h
        have HC6 : Hid (CellsAt ((wr.alloc (.cells #[.int .u8 r.f.toNat, .int .u8 r.t.toNat, .string r.v] 32)).alloc (.cells #[.int .u8 p0.toNat, .int .u8 r.t.toNat, .int .u8 (r.v.size : Int)] 5)) wr.heap.size #[.int .u8 r.f.toNat, .int .u8 r.t.toNat, .string r.v] 32) := (CellsAt.new _ _ _).alloc _
        have HOa := Lib.hid ((HO.out.alloc (.cells #[.int .u8 r.f.toNat, .int .u8 r.t.toNat, .string r.v] 32)).alloc (.cells #[.int .u8 p0.toNat, .int .u8 r.t.toNat, .int .u8 (r.v.size : Int)] 5))
        have HBa : Hid (Below w.heap.size w ((wr.alloc (.cells #[.int .u8 r.f.toNat, .int .u8 r.t.toNat, .string r.v] 32)).alloc (.cells #[.int .u8 p0.toNat, .int .u8 r.t.toNat, .int .u8 (r.v.size : Int)] 5))) := HBV.out.alloc (by simp; omega) _
        have HS := Lib.hid (Src.block (P := Tryz.prog) (t2 := 56) (size := 1) (m := 3) (c := 3) Tryz.underlying56 HCB.out rfl (by simp [Value.oneCell']))
        have HBS : Hid (w.heap.size ≤ ((wr.alloc (.cells #[.int .u8 r.f.toNat, .int .u8 r.t.toNat, .string r.v] 32)).alloc (.cells #[.int .u8 p0.toNat, .int .u8 r.t.toNat, .int .u8 (r.v.size : Int)] 5)).heap.size) := by show _ ≤ _; simp; omega
        have HM : Hid (pre.length + 3 ≤ maxLen) := by show _ ≤ _; unfold maxLen; omega
        have HY : Hid ((pre.length + 3) * 1 ≤ 140737488355328) := by show _ ≤ _; omega
        go_wp2_with (at_builtin; refine wpList_append_m rfl (.tmp 34) (.tmp 42) 56 56 rfl w.heap.size 5 i0 _ 1 1 Tryz.underlying56 HI.out HZ0.out HZ1.out HZ2.out rfl (by decide) (.slice A2 pre.length c2') pre.length (byteVals pre) rfl HOa.out _ 3 _ rfl HS.out HM.out HY.out HBS.out ?_)
        intro v' w5 hown hgr hat
        obtain ⟨A6, c6, rfl⟩ := hown.form
        obtain ⟨pre2, hpre2⟩ : ∃ p, p = pre ++ [p0, r.t, q2] := ⟨_, rfl⟩
        have hlp2 : pre2.length = pre.length + 3 := by rw [hpre2, List.length_append]; rfl
        have HN : Hid (OwnM w5 w.heap.size 5 1 (.slice A6 pre2.length c6) pre2.length (byteVals pre2)) := by
          show OwnM _ _ _ _ _ _ _
          rw [hlp2, hpre2, byteVals_append]
          rw [show byteVals [p0, r.t, q2] = [.int .u8 p0.toNat, .int .u8 r.t.toNat, .int .u8 (r.v.size : Int)] by unfold byteVals; rw [e2.out]; rfl]
          exact hown
        rw [← hlp2]
        have hp2le : pre2.length ≤ 5000 := by omega
        clear hlp2
        have HB5 : Hid (Below w.heap.size w w5) := OwnM.below_grown HOa.out hgr HBa.out HBS.out (Nat.le_refl _)
        have HC65 : Hid (CellsAt w5 wr.heap.size #[.int .u8 r.f.toNat, .int .u8 r.t.toNat, .string r.v] 32) := HC6.out.own hgr (fun e => by
          have := (HO.out.lt wr.heap.size e.symm).2
          omega)
        obtain ⟨d0, d1, d2⟩ := HC65.out.c3
        have hs5 := HB5.out.size
        have HT2 : Hid (pre ++ rawB r = pre2 ++ r.v.data.toList) := by show _ = _; rw [hrb.out, hpre2, List.append_assoc]
        clear hown hgr hat hpre2 HCB HC6 HOa HBa HS HBS HM HY c0 c1 c2
        have HS2 := Lib.hid (Src.string (P := Tryz.prog) (w := w5) (t2 := 9) (s := r.v) Tryz.underlying9)
        have HM2 : Hid (pre2.length + r.v.size ≤ maxLen) := by show _ ≤ _; unfold maxLen; omega
        have HY2 : Hid ((pre2.length + r.v.size) * 1 ≤ 140737488355328) := by show _ ≤ _; omega
        go_wp2_with (at_builtin; refine wpList_append_m rfl (.tmp 44) (.tmp 46) 56 9 rfl w.heap.size 5 i0 _ 1 1 Tryz.underlying56 HI.out HZ0.out HZ1.out HZ2.out rfl (by decide) (.slice A6 pre2.length c6) pre2.length (byteVals pre2) rfl HN.out _ r.v.size _ rfl HS2.out HM2.out HY2.out hs5 ?_)
        intro v' w6 hown hgr hat
        obtain ⟨A7, c7, rfl⟩ := hown.form
        obtain ⟨pre3, hpre3⟩ : ∃ p, p = pre2 ++ r.v.data.toList := ⟨_, rfl⟩
        have hlp3 : pre3.length = pre2.length + r.v.size := by rw [hpre3, List.length_append, Array.length_toList]; rfl
        have HN3 : Hid (OwnM w6 w.heap.size 5 1 (.slice A7 pre3.length c7) pre3.length (byteVals pre3)) := by
          show OwnM _ _ _ _ _ _ _
          rw [hlp3, hpre3, byteVals_append]
          exact hown
        rw [← hlp3]
        have hp3le : pre3.length ≤ 20000 := by omega
        clear hlp3
        have HB6 : Hid (Below w.heap.size w w6) := OwnM.below_grown HN.out hgr HB5.out hs5 (Nat.le_refl _)
        rw [HT2.out, ← hpre3] at hno HT
        clear hown hgr hat hpre3 HS2 HM2 HY2 d0 d1 d2
        by_cases h3 : 4077 < pre3.length
        · have HN4 := Lib.hid (hno.out h3)
          have h3' : 4077 < (pre3.length : Int) := by omega
          clear h3
          go_wp2_with fail
          go_ret2
          exact ⟨by rw [HN4.out]; rfl, HB6.out⟩
        · have h3' : ¬ 4077 < (pre3.length : Int) := by omega
          go_wp2_with fail
          exact ⟨⟨k + 1, by omega, by go_num, by rw [HT.out]; exact HN3.out, by rw [HT.out]; omega, HB6.out⟩, by simp [intOf]; omega⟩
    · obtain rfl : k = L.length := by omega
      rw [List.take_length] at HO hle
      have hstr := run_string_m (P := Tryz.prog) wr 56 9 5 _ _ _ _ Tryz.underlying56 Tryz.underlying5 Tryz.underlying9 HO.out
      have HF : Hid (res = .tuple #[.string ⟨(laysB L).toArray⟩, .int .i64 0]) := by show _ = _; rw [← HRES.out]; exact layR_ok hle
      go_wp2_with fail
      go_ret2
      exact ⟨by rw [HF.out]; rfl, HB.out⟩
end Go.Proofs.YtkcojblflebomaaGreat
