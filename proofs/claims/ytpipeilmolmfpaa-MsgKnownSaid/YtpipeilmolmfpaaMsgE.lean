/-
  Contracts of msg.ReadRefresh and of heraldref12.ReadRefresh. Conditions: sizes.
-/
import Derived.Test.YtpipeilmolmfpaaMsgD
set_option linter.unusedVariables false
set_option linter.unusedSimpArgs false
namespace Go.Proofs.Ytpipeilmolmfpaa
open Go.RowKit

/-- which family a request's body names; 0: none -/
def famB (b : ByteArray) : Int := famOf (b[0]!.toNat * 256 + b[1]!.toNat : Nat) (b[3]!.toNat : Nat)
/-- the answer of ReadRefresh -/
def readR (b : ByteArray) : Value := if b.size = 4 then (if famB b = 0 then .tuple #[.int .i64 0, .int .i64 5] else .tuple #[.int .i64 (famB b), .int .i64 0]) else .tuple #[.int .i64 0, .int .i64 4]

theorem below_grown {r : Nat} {a b c : World} (h : Below a.heap.size a b) (k : b.grownBy c (some r)) (hr : a.heap.size ≤ r) : Below a.heap.size a c :=
  ⟨k.os.trans h.os, k.tape.trans h.tape, k.output.trans h.output, Nat.le_trans h.size k.size, fun i hi => (k.block i (Nat.lt_of_lt_of_le hi h.size) (by intro e; cases e; omega)).trans (h.block i hi)⟩

/-- Number, too short or not -/
theorem number_gen (b : Nat) (s : ByteArray) (n : Nat) (w : World) (h : RdAt w b s) (h0 : 1 ≤ n) (h1 : n ≤ 8) (hm : (s.size : Int) ≤ 9223372036854775807) :
    Calls Try.prog 31 #[.pointer (some ⟨b, 0, none⟩), .int .i64 n] w fun e w' =>
      ∃ (v : Nat) (t : ByteArray) (k : Bool), e = .returned (.tuple #[.int .u64 v, .bool k]) ∧ k = decide (n ≤ s.size) ∧ RdAt w' b t ∧ w.grownBy w' (some b) ∧
        (if n ≤ s.size then v = beVal (s.data.toList.take n) ∧ t = s.extract n s.size else t = s) ∧ v < 256 ^ n := by
  by_cases hs : n ≤ s.size
  · refine (number_ok b s n w h h0 h1 hs hm).mono ?_
    rintro e w' ⟨rfl, hr, hg⟩
    refine ⟨_, _, true, rfl, (decide_eq_true hs).symm, hr, hg, by rw [if_pos hs]; exact ⟨rfl, rfl⟩, beVal_lt _ n (by simp; omega)⟩
  · refine (number_short b s n w h h0 h1 (by omega) hm).mono ?_
    rintro e w' ⟨rfl, hr, hg⟩
    refine ⟨0, _, false, rfl, (decide_eq_false hs).symm, hr, hg, by rw [if_neg hs], Nat.pos_of_ne_zero (by simp)⟩

theorem famB_of (b : ByteArray) (h : b.size = 4) : famOf ((beVal (b.data.toList.take 2) : Nat) : Int) ((beVal (((b.extract 2 b.size).extract 1 (b.extract 2 b.size).size).data.toList.take 1) : Nat) : Int) = famB b := by
  obtain ⟨a⟩ := b
  obtain ⟨l⟩ := a
  have hl : l.length = 4 := h
  match l, hl with
  | [x, y, z, u], _ =>
    have e1 : beVal ([x, y, z, u].take 2) = x.toNat * 256 + y.toNat := by simp [beVal]
    have e2 : beVal (((((⟨⟨[x, y, z, u]⟩⟩ : ByteArray).extract 2 4).extract 1 2).data.toList).take 1) = u.toNat := by
      simp [beVal, ByteArray.data_extract]
    have e3 : (⟨⟨[x, y, z, u]⟩⟩ : ByteArray).size = 4 := rfl
    unfold famB
    have e4 : ((⟨⟨[x, y, z, u]⟩⟩ : ByteArray).extract 2 4).size = 2 := by simp [e3]
    rw [e3, e4, e2]
    show famOf ((beVal ([x, y, z, u].take 2) : Nat) : Int) _ = famOf ((x.toNat * 256 + y.toNat : Nat) : Int) ((u.toNat : Nat) : Int)
    rw [e1]

set_option maxRecDepth 100000 in
theorem readrefresh_any (b : ByteArray) (w : World) (hb : b.size ≤ 1152921504606846976) :
    Calls Try.prog 23 #[.string b] w fun e w' => e = .returned (readR b) ∧ Below w.heap.size w w' := by
  have HF := Lib.hid (famB_of b)
  have HI := Lib.hid (fun a s => famOf_in a s)
  go_enter Try.func23, Try.ntmps23
  go_wp2_with fail
  refine (new_any b _).mono ?_
  rintro e w1 ⟨rfl, hw1⟩
  have HR1 : Hid (RdAt w1 w.heap.size b) := by rw [hw1]; exact heap_alloc_new w _
  have HB1 : Hid (Below w.heap.size w w1) := by rw [hw1]; exact (Below.refl _ _).alloc (Nat.le_refl _) _
  clear hw1
  go_wp2_with fail
  refine (number_gen _ b 2 _ HR1.out (by decide) (by decide) (by omega)).mono ?_
  rintro e w2 ⟨v1, t1, k1, rfl, hk1, hr2, hg2, ht1, hv1⟩
  have HB2 := Lib.hid (below_grown HB1.out hg2 (Nat.le_refl _))
  have HR2 := Lib.hid hr2
  have ht1s : t1.size = if 2 ≤ b.size then b.size - 2 else b.size := by split at ht1 <;> rename_i hc <;> simp [ht1, hc]
  have HT1 := Lib.hid ht1
  clear hk1 hr2 hg2 ht1 HB1 HR1
  go_wp2_with fail
  refine (number_gen _ t1 1 _ HR2.out (by decide) (by decide) (by split at ht1s <;> omega)).mono ?_
  rintro e w3 ⟨v2, t2, k2, rfl, hk2, hr3, hg3, ht2, hv2⟩
  have HB3 := Lib.hid (below_grown HB2.out hg3 (Nat.le_refl _))
  have HR3 := Lib.hid hr3
  have ht2s : t2.size = if 1 ≤ t1.size then t1.size - 1 else t1.size := by split at ht2 <;> rename_i hc <;> simp [ht2, hc]
  have HT2 := Lib.hid ht2
  clear hk2 hr3 hg3 ht2 HB2 HR2
  go_wp2_with fail
  refine (number_gen _ t2 1 _ HR3.out (by decide) (by decide) (by split at ht1s <;> split at ht2s <;> omega)).mono ?_
  rintro e w4 ⟨v3, t3, k3, rfl, hk3, hr4, hg4, ht3, hv3⟩
  have HB4 := Lib.hid (below_grown HB3.out hg4 (Nat.le_refl _))
  have HR4 := Lib.hid hr4
  have ht3s : t3.size = if 1 ≤ t2.size then t2.size - 1 else t2.size := by split at ht3 <;> rename_i hc <;> simp [ht3, hc]
  have HT3 := Lib.hid ht3
  clear hr4 hg4 ht3 HB3 HR3
  by_cases h4 : 1 ≤ t2.size
  · have hd : decide (1 ≤ t2.size) = true := decide_eq_true h4
    rw [hd] at hk3
    subst hk3
    have hb4 : 4 ≤ b.size := by split at ht1s <;> split at ht2s <;> omega
    have hs3 : t3.size = b.size - 4 := by split at ht1s <;> split at ht2s <;> split at ht3s <;> omega
    have g1 : 2 ≤ b.size := by omega
    have g2 : 1 ≤ t1.size := by split at ht1s <;> split at ht2s <;> omega
    clear ht1s ht2s ht3s hd
    go_wp2_with fail
    refine (left_any _ t3 _ HR4.out).mono ?_
    rintro e w5 ⟨rfl, rfl⟩
    rw [hs3]
    by_cases h5 : b.size = 4
    · have hx : ((b.size - 4 : Nat) : Int) = 0 := by omega
      rw [hx]
      go_wp2_with fail
      have hq1 := HT1.out
      have hq2 := HT2.out
      have hq3 := HT3.out
      rw [if_pos g1] at hq1
      rw [if_pos g2] at hq2
      rw [if_pos h4] at hq3
      have hval : famOf (v1 : Int) (v3 : Int) = famB b := by
        rw [hq1.1, hq3.1, hq2.2, hq1.2]
        exact HF.out h5
      have hm1 : ((v1 : Int) % 65536) = v1 := by omega
      have hm3 : ((v3 : Int) % 256) = v3 := by omega
      have HV := Lib.hid hval
      clear hq1 hq2 hq3 hval
      refine (fam_any _ _ _).mono ?_
      rintro e w6 ⟨rfl, hb6⟩
      have HB6 := Lib.hid (HB4.out.trans (hb6.mono HB4.out.size))
      clear hb6
      rw [HV.out]
      by_cases hz : famB b = 0
      · have hr : Hid (readR b = .tuple #[.int .i64 0, .int .i64 5]) := by show _ = _; unfold readR; rw [if_pos h5, if_pos hz]
        rw [hz]
        clear hz h5
        go_wp2_with fail
        go_ret2
        exact ⟨(congrArg Ending.returned hr.out).symm, HB6.out⟩
      · have hr : Hid (readR b = .tuple #[.int .i64 (famB b), .int .i64 0]) := by show _ = _; unfold readR; rw [if_pos h5, if_neg hz]
        clear h5
        generalize famB b = F at hr hz
        have ez : (F == 0) = false := by rw [beq_eq_false_iff_ne]; exact hz
        clear hz
        go_wp2_with fail
        go_ret2
        exact ⟨(congrArg Ending.returned hr.out).symm, HB6.out⟩
    · have hx : (0 : Int) < ((b.size - 4 : Nat) : Int) := by omega
      generalize ((b.size - 4 : Nat) : Int) = z at hx
      go_wp2_with fail
      go_ret2
      exact ⟨(congrArg Ending.returned (show readR b = .tuple #[.int .i64 0, .int .i64 4] from by unfold readR; rw [if_neg h5])).symm, HB4.out⟩
  · have hd : decide (1 ≤ t2.size) = false := decide_eq_false h4
    rw [hd] at hk3
    subst hk3
    have h5 : ¬ b.size = 4 := by split at ht1s <;> split at ht2s <;> omega
    go_wp2_with fail
    go_ret2
    exact ⟨(congrArg Ending.returned (show readR b = .tuple #[.int .i64 0, .int .i64 4] from by unfold readR; rw [if_neg h5])).symm, HB4.out⟩

set_option maxRecDepth 100000 in
theorem rreadrefresh_any (b : ByteArray) (w : World) (hb : b.size ≤ 1152921504606846976) :
    Calls Try.prog 24 #[.string b] w fun e w' => e = .returned (readR b) ∧ Below w.heap.size w w' := by
  by_cases h4 : b.size = 4
  · have l0 : 0 < b.size := by omega
    have l1 : 1 < b.size := by omega
    have l3 : 3 < b.size := by omega
    have HV : Hid (famOf (((b[0].toNat : Nat) : Int) * (256 : Int) + ((b[1].toNat : Nat) : Int)) ((b[3].toNat : Nat) : Int) = famB b) := by
      show _ = _
      unfold famB
      rw [getElem!_pos b 0 l0, getElem!_pos b 1 l1, getElem!_pos b 3 l3]
      simp
    have q0 := b[0].toNat_lt
    have q1 := b[1].toNat_lt
    have e4 : (((b.size : Nat) : Int) == 4) = true := by rw [h4]; rfl
    have e4' : (((b.size : Nat) : Int) != 4) = false := by rw [h4]; rfl
    have l0i : (0 : Int) < (b.size : Int) := by omega
    have l1i : (1 : Int) < (b.size : Int) := by omega
    have l3i : (3 : Int) < (b.size : Int) := by omega
    have c := fun w => rfam_any (((b[0].toNat : Nat) : Int) * (256 : Int) + ((b[1].toNat : Nat) : Int)) ((b[3].toNat : Nat) : Int) w
    by_cases hz : famB b = 0
    · have hr : Hid (readR b = .tuple #[.int .i64 0, .int .i64 5]) := by show _ = _; unfold readR; rw [if_pos h4, if_pos hz]
      rw [hz] at HV
      rw [HV.out] at c
      clear hz h4
      go_enter Try.func24, Try.ntmps24
      go_wp2_with fail
      go_quiet ((go_at_call 34; exact Calls.quiet_of_same (c _)))
      go_wp2_with fail
      go_ret2
      exact ⟨(congrArg Ending.returned hr.out).symm, below_drewN (Below.refl _ _) nq⟩
    · have hr : Hid (readR b = .tuple #[.int .i64 (famB b), .int .i64 0]) := by show _ = _; unfold readR; rw [if_pos h4, if_neg hz]
      rw [HV.out] at c
      clear h4
      generalize famB b = F at hr c hz
      have ez : (F == 0) = false := by rw [beq_eq_false_iff_ne]; exact hz
      clear hz
      go_enter Try.func24, Try.ntmps24
      go_wp2_with fail
      go_quiet ((go_at_call 34; exact Calls.quiet_of_same (c _)))
      go_wp2_with fail
      go_ret2
      exact ⟨(congrArg Ending.returned hr.out).symm, below_drewN (Below.refl _ _) nq⟩
  · have hr : Hid (readR b = .tuple #[.int .i64 0, .int .i64 4]) := by show _ = _; unfold readR; rw [if_neg h4]
    have e4 : (((b.size : Nat) : Int) == 4) = false := by rw [beq_eq_false_iff_ne]; omega
    have e4' : (((b.size : Nat) : Int) != 4) = true := by rw [bne, e4]; rfl
    clear h4
    go_enter Try.func24, Try.ntmps24
    go_wp2_with fail
    go_ret2
    exact ⟨(congrArg Ending.returned hr.out).symm, Below.refl _ _⟩

end Go.Proofs.Ytpipeilmolmfpaa
