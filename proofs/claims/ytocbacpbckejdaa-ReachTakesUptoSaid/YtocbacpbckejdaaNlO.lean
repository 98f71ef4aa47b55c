/-
  Contract of nlri.Decode. Conditions: sizes.
-/
import Derived.Test.YtocbacpbckejdaaNlJ
import Derived.BigRegion
set_option linter.unusedVariables false
set_option linter.unusedSimpArgs false
namespace Go.Proofs.Ytocbacpbckejdaa
open Go.RowKit

set_option maxRecDepth 100000 in
set_option maxHeartbeats 8000000 in
theorem decode_LAI (s : ByteArray) (f : Int) (sz : Nat) (w : World) (h1 : 1 ≤ f) (h2 : f ≤ 5) (hlab : labB f = true) (hap : apB f = true) (hah : aheadV f = 88) (hsz : famSize f = sz) (hz : sz = 4 ∨ sz = 16) (hs : s.size ≤ 1100000) :
    Calls Try.prog 40 #[.string s, .int .i64 f, .bool true] w (DecPost w s f true) := by
  have HLB : Hid (∀ w, Calls Try.prog 56 #[.int .i64 f] w fun e w' => e = .returned (.bool true) ∧ w' = w) := fun w => hlab ▸ nlab_any f w h1 h2
  have HAB : Hid (∀ w, Calls Try.prog 57 #[.int .i64 f] w fun e w' => e = .returned (.bool true) ∧ w' = w) := fun w => hap ▸ nap_any f w h1 h2
  have HAH : Hid (∀ w, Calls Try.prog 55 #[.int .i64 f] w fun e w' => e = .returned (.int .i64 88) ∧ w' = w) := fun w => hah ▸ nahead_any f w h1 h2
  have HSI : Hid (∀ w, Calls Try.prog 52 #[.int .i64 f] w fun e w' => e = .returned (.int .i64 (sz : Nat)) ∧ w' = w) := fun w => hsz ▸ psize_any f w
  have HLAB := Lib.hid hlab
  have HAP := Lib.hid hap
  have HAHV := Lib.hid hah
  have HSZ := Lib.hid hsz
  have e0 : (((sz : Nat) : Int) == 0) = false := by rw [beq_eq_false_iff_ne]; omega
  have hz1 : sz ≤ 16 := by omega
  have hz2 : 1 ≤ sz := by omega
  clear hlab hap hah hsz hz h1 h2
  go_enter Try.func40, Try.ntmps40
  go_wp2_with fail
  refine (HSI.out _).mono ?_
  rintro e w1 ⟨rfl, hw⟩
  rw [hw]
  clear hw
  go_wp2_with fail
  refine (new_any s _).mono ?_
  rintro e w1 ⟨rfl, hw⟩
  rw [hw]
  clear hw
  go_wp2_with fail
  have HS0 : Hid (DecS w (((w.alloc (.cells #[.bool true, .string s] 93)).alloc (.cells #[.pointer (some ⟨w.heap.size, 0, none⟩)] 70)).alloc (.cells #[.bool false] 4)) (w.heap.size + 1) w.heap.size (w.heap.size + 1 + 1) s false (.slice none 0 0) []) := by
    refine ⟨⟨?_, ?_, ?_, by omega, by omega, by omega⟩, OwnM.nil _ _ _ _, ?_, by omega, by omega⟩
    · have h := CellsAt.new (w.alloc (.cells #[.bool true, .string s] 93)) #[.pointer (some ⟨w.heap.size, 0, none⟩)] 70
      rw [show (w.alloc (.cells #[.bool true, .string s] 93)).heap.size = w.heap.size + 1 by simp] at h
      exact h.alloc _
    · exact CellsAt.alloc (CellsAt.alloc (CellsAt.new w #[.bool true, .string s] 93) _) _
    · have h := CellsAt.new ((w.alloc (.cells #[.bool true, .string s] 93)).alloc (.cells #[.pointer (some ⟨w.heap.size, 0, none⟩)] 70)) #[.bool false] 4
      rw [show ((w.alloc (.cells #[.bool true, .string s] 93)).alloc (.cells #[.pointer (some ⟨w.heap.size, 0, none⟩)] 70)).heap.size = w.heap.size + 1 + 1 by simp] at h
      exact h
    · exact (((Below.refl _ _).alloc (Nat.le_refl _) _).alloc (by simp) _).alloc (by simp; omega) _
  generalize (((w.alloc (.cells #[.bool true, .string s] 93)).alloc (.cells #[.pointer (some ⟨w.heap.size, 0, none⟩)] 70)).alloc (.cells #[.bool false] 4)) = W0 at HS0 ⊢
  go_loopw [12] (fun o wr => ∃ (A : Option Addr) (c : Nat) (L : List Nl) (t : ByteArray) (n : Nat), o = .slice A L.length c ∧ L.length + t.size ≤ s.size ∧ Hid (DecS w wr (w.heap.size + 1) w.heap.size (w.heap.size + 1 + 1) t false o L) ∧ Hid (t.size < n ∧ decRun f true n t L = decAll f true s)) (fun o _ => s.size + 1 - lenV o)
  case atStart => exact ⟨none, 0, [], s, s.size + 1, rfl, by simp, HS0.out, Nat.lt_succ_self _, rfl⟩
  case round =>
    obtain ⟨A, c, L, t, n, rfl, hLt, HS, HR⟩ := hrel
    clear HS0
    have p9 := HS.out.d.h9.one.1
    have p10 := HS.out.d.h10.one.1
    have htm : (t.size : Int) ≤ 9223372036854775807 := by omega
    by_cases ht : t.size = 0
    · have HEND := Lib.hid (run_end HR.out ht)
      go_wp2_with fail
      refine (left_any _ t _ HS.out.d.rd).mono ?_
      rintro e w1 ⟨rfl, hw⟩
      rw [hw]
      clear hw
      have htz : ((t.size : Nat) : Int) = 0 := by omega
      go_wp2_with fail
      go_ret2
      exact DecPost.yes HEND.out rfl HS.out.own HS.out.bl
    · have ht0 : 0 < (t.size : Int) := by omega
      have HT0 : Hid (0 < t.size) := Nat.pos_of_ne_zero ht
      clear ht
      have HN0 : Hid (DecN w (wr.alloc (.cells #[.int .i64 0, .int .u64 0, .string ⟨#[]⟩, .int .i64 0, .int .u32 0, .int .u32 0] 47)) (w.heap.size + 1) w.heap.size (w.heap.size + 1 + 1) t false (.slice A L.length c) L wr.heap.size ⟨0, 0, ⟨#[]⟩, 0, 0, 0⟩) := DecN.new HS.out ⟨0, 0, ⟨#[]⟩, 0, 0, 0⟩
      have HE0 : Hid ((Nl.cs ⟨0, 0, ⟨#[]⟩, 0, 0, 0⟩).toArray.setIfInBounds 0 (.int .i64 f) = (Nl.cs ⟨f, 0, ⟨#[]⟩, 0, 0, 0⟩).toArray) := rfl
      go_wp2_with fail
      refine (left_any _ t _ HS.out.d.rd).mono ?_
      rintro e w1 ⟨rfl, hw⟩
      rw [hw]
      clear hw
      go_wp2_with (with_reducible show wpList _ _ _ (_ :: _) _ _; refine wpList_nl_set rfl 3 (.tmp 36) (.tmp 34) rfl 0 rfl (.int .i64 f) rfl (by kernel_rfl) HN0 ⟨f, 0, ⟨#[]⟩, 0, 0, 0⟩ HE0 (by omega) rfl ?_)
      intro V1 HN1
      clear HN0 HE0 p9 p10
      obtain ⟨z1, HZz1⟩ : ∃ x9, Hid (x9 = tN t 4) := ⟨_, rfl⟩
      obtain ⟨t1, HTz1⟩ : ∃ x9, Hid (x9 = tR t 4) := ⟨_, rfl⟩
      obtain ⟨b1, HBz1⟩ : ∃ x9, Hid (x9 = tW t 4 false) := ⟨_, rfl⟩
      have HRz1 : Hid (rdIf true t 4 false = (z1, t1, b1)) := by
        show (tN t 4, tR t 4, tW t 4 false) = _
        rw [HZz1.out, HTz1.out, HBz1.out]
      have hlz1 : z1 < 4294967296 := by rw [HZz1.out]; exact tN_lt t 4
      have hmt1 : (t1.size : Int) ≤ 9223372036854775807 := by
        have h := tR_size t 4
        rw [← HTz1.out] at h
        omega
      have HCz1 : Hid (∀ V, DecAt V (w.heap.size + 1) w.heap.size (w.heap.size + 1 + 1) t false → Calls Try.prog 53 #[.int .i64 4, .pointer (some ⟨w.heap.size + 1, 0, none⟩), .pointer (some ⟨w.heap.size + 1 + 1, 0, none⟩)] V (NTake V (w.heap.size + 1) w.heap.size (w.heap.size + 1 + 1) (z1 : Nat) t1 b1)) := fun V h => by
        rw [HZz1.out, HTz1.out, HBz1.out]
        exact ntake_any _ _ _ t 4 false V h (by omega) (by omega) htm rfl
      go_wp2_with fail
      refine (HCz1.out _ HN1.out.s.d).mono ?_
      rintro e V2 hnt
      have HN2 := Lib.hid (HN1.out.took hnt)
      obtain ⟨rfl, hx, hy⟩ := hnt
      clear hx hy HN1 HZz1 HTz1 HBz1 HCz1
      have HE : Hid ((Nl.cs ⟨f, 0, ⟨#[]⟩, 0, 0, 0⟩).toArray.setIfInBounds 4 (.int .u32 (z1 : Nat)) = (Nl.cs ⟨f, 0, ⟨#[]⟩, 0, (z1 : Nat), 0⟩).toArray) := rfl
      go_wp2_with (with_reducible show wpList _ _ _ (_ :: _) _ _; refine wpList_nl_set rfl 45 (.tmp 41) (.tmp 40) rfl 4 rfl (.int .u32 (z1 : Nat)) rfl (by kernel_rfl) HN2 ⟨f, 0, ⟨#[]⟩, 0, (z1 : Nat), 0⟩ HE (by omega) rfl ?_)
      intro V3 HN3
      clear HN2 HE
      obtain ⟨z2, HZz2⟩ : ∃ x9, Hid (x9 = tN t1 1) := ⟨_, rfl⟩
      obtain ⟨t2, HTz2⟩ : ∃ x9, Hid (x9 = tR t1 1) := ⟨_, rfl⟩
      obtain ⟨b2, HBz2⟩ : ∃ x9, Hid (x9 = tW t1 1 b1) := ⟨_, rfl⟩
      have HRz2 : Hid (rdIf true t1 1 b1 = (z2, t2, b2)) := by
        show (tN t1 1, tR t1 1, tW t1 1 b1) = _
        rw [HZz2.out, HTz2.out, HBz2.out]
      have hlz2 : z2 < 256 := by rw [HZz2.out]; exact tN_lt t1 1
      have hmt2 : (t2.size : Int) ≤ 9223372036854775807 := by
        have h := tR_size t1 1
        rw [← HTz2.out] at h
        omega
      have HCz2 : Hid (∀ V, DecAt V (w.heap.size + 1) w.heap.size (w.heap.size + 1 + 1) t1 b1 → Calls Try.prog 53 #[.int .i64 1, .pointer (some ⟨w.heap.size + 1, 0, none⟩), .pointer (some ⟨w.heap.size + 1 + 1, 0, none⟩)] V (NTake V (w.heap.size + 1) w.heap.size (w.heap.size + 1 + 1) (z2 : Nat) t2 b2)) := fun V h => by
        rw [HZz2.out, HTz2.out, HBz2.out]
        exact ntake_any _ _ _ t1 1 b1 V h (by omega) (by omega) hmt1 rfl
      go_wp2_with fail
      refine (HCz2.out _ HN3.out.s.d).mono ?_
      rintro e V4 hnt
      have HN4 := Lib.hid (HN3.out.took hnt)
      obtain ⟨rfl, hx, hy⟩ := hnt
      clear hx hy HN3 HZz2 HTz2 HBz2 HCz2
      go_wp2_with fail
      refine (HAH.out _).mono ?_
      rintro e w1 ⟨rfl, hw⟩
      rw [hw]
      clear hw
      go_wp2_with fail
      refine (HLB.out _).mono ?_
      rintro e w1 ⟨rfl, hw⟩
      rw [hw]
      clear hw
      obtain ⟨z3, HZz3⟩ : ∃ x9, Hid (x9 = tN t2 3) := ⟨_, rfl⟩
      obtain ⟨t3, HTz3⟩ : ∃ x9, Hid (x9 = tR t2 3) := ⟨_, rfl⟩
      obtain ⟨b3, HBz3⟩ : ∃ x9, Hid (x9 = tW t2 3 b2) := ⟨_, rfl⟩
      have HRz3 : Hid (rdIf true t2 3 b2 = (z3, t3, b3)) := by
        show (tN t2 3, tR t2 3, tW t2 3 b2) = _
        rw [HZz3.out, HTz3.out, HBz3.out]
      have hlz3 : z3 < 16777216 := by rw [HZz3.out]; exact tN_lt t2 3
      have hmt3 : (t3.size : Int) ≤ 9223372036854775807 := by
        have h := tR_size t2 3
        rw [← HTz3.out] at h
        omega
      have HCz3 : Hid (∀ V, DecAt V (w.heap.size + 1) w.heap.size (w.heap.size + 1 + 1) t2 b2 → Calls Try.prog 53 #[.int .i64 3, .pointer (some ⟨w.heap.size + 1, 0, none⟩), .pointer (some ⟨w.heap.size + 1 + 1, 0, none⟩)] V (NTake V (w.heap.size + 1) w.heap.size (w.heap.size + 1 + 1) (z3 : Nat) t3 b3)) := fun V h => by
        rw [HZz3.out, HTz3.out, HBz3.out]
        exact ntake_any _ _ _ t2 3 b2 V h (by omega) (by omega) hmt2 rfl
      go_wp2_with fail
      refine (HCz3.out _ HN4.out.s.d).mono ?_
      rintro e V5 hnt
      have HN5 := Lib.hid (HN4.out.took hnt)
      obtain ⟨rfl, hx, hy⟩ := hnt
      clear hx hy HN4 HZz3 HTz3 HBz3 HCz3
      cases b3 with
      | true =>
        have p10 := HN5.out.p10
        go_wp2_with (with_reducible show wpList _ _ _ (_ :: _) _ _; refine wpList_nl_flag rfl (.tmp 10) (.tmp 61) rfl rfl true rfl HN5 ?_)
        intro V6 HN6
        clear p10 HN5
        by_cases hg0 : z3 = 8388608
        · subst hg0
          go_wp2_with fail
          refine (HAB.out _).mono ?_
          rintro e w1 ⟨rfl, hw⟩
          rw [hw]
          clear hw
          obtain ⟨z4, HZz4⟩ : ∃ x9, Hid (x9 = tN t3 8) := ⟨_, rfl⟩
          obtain ⟨t4, HTz4⟩ : ∃ x9, Hid (x9 = tR t3 8) := ⟨_, rfl⟩
          obtain ⟨b4, HBz4⟩ : ∃ x9, Hid (x9 = tW t3 8 true) := ⟨_, rfl⟩
          have HRz4 : Hid (rdIf true t3 8 true = (z4, t4, b4)) := by
            show (tN t3 8, tR t3 8, tW t3 8 true) = _
            rw [HZz4.out, HTz4.out, HBz4.out]
          have hlz4 : z4 < 18446744073709551616 := by rw [HZz4.out]; exact tN_lt t3 8
          have hmt4 : (t4.size : Int) ≤ 9223372036854775807 := by
            have h := tR_size t3 8
            rw [← HTz4.out] at h
            omega
          have HCz4 : Hid (∀ V, DecAt V (w.heap.size + 1) w.heap.size (w.heap.size + 1 + 1) t3 true → Calls Try.prog 53 #[.int .i64 8, .pointer (some ⟨w.heap.size + 1, 0, none⟩), .pointer (some ⟨w.heap.size + 1 + 1, 0, none⟩)] V (NTake V (w.heap.size + 1) w.heap.size (w.heap.size + 1 + 1) (z4 : Nat) t4 b4)) := fun V h => by
            rw [HZz4.out, HTz4.out, HBz4.out]
            exact ntake_any _ _ _ t3 8 true V h (by omega) (by omega) hmt3 rfl
          go_wp2_with fail
          refine (HCz4.out _ HN6.out.s.d).mono ?_
          rintro e V7 hnt
          have HN7 := Lib.hid (HN6.out.took hnt)
          obtain ⟨rfl, hx, hy⟩ := hnt
          clear hx hy HN6 HZz4 HTz4 HBz4 HCz4
          obtain rfl : b4 = true := by
            have h := HRz4.out
            exact (congrArg (fun x => x.2.2) h).symm
          have HE : Hid ((Nl.cs ⟨f, 0, ⟨#[]⟩, 0, (z1 : Nat), 0⟩).toArray.setIfInBounds 1 (.int .u64 (z4 : Nat)) = (Nl.cs ⟨f, (z4 : Nat), ⟨#[]⟩, 0, (z1 : Nat), 0⟩).toArray) := rfl
          go_wp2_with (with_reducible show wpList _ _ _ (_ :: _) _ _; refine wpList_nl_set rfl 42 (.tmp 73) (.tmp 71) rfl 1 rfl (.int .u64 (z4 : Nat)) rfl (by kernel_rfl) HN7 ⟨f, (z4 : Nat), ⟨#[]⟩, 0, (z1 : Nat), 0⟩ HE (by omega) rfl ?_)
          intro V8 HN8
          clear HN7 HE
          have HSP : Hid (decStep f true t = decTail f z1 (labOf true 8388608) z4 ((z2 : Int) - 88) t4 true) := by
            show _ = _
            have h := decStep_eq (f := f) (add := true) (z1 := z1) (t1 := t1) (b1 := b1) (z2 := z2) (t2 := t2) (b2 := b2) (z3 := 8388608) (t3 := t3) (b3 := true) (fl := true) (z4 := z4) (t4 := t4) (b4 := true) HRz1.out HRz2.out (by rw [HLAB.out]; exact HRz3.out) (by rw [HLAB.out]; exact rfl) (by rw [HAP.out]; exact HRz4.out)
            rw [HLAB.out, HAHV.out] at h
            exact h
          have HNO := Lib.hid (run_err HR.out HT0.out (HSP.out.trans (tail_bad)))
          have p9 := HN8.out.p9
          have p10 := HN8.out.p10
          go_wp2_with fail
          go_ret2
          exact DecPost.no HNO.out rfl HN8.out.s.bl
        · have hne : (((z3 : Nat) : Int) == 8388608) = false := by rw [beq_eq_false_iff_ne]; omega
          have hnb : (((z3 : Nat) : Int) != 8388608) = true := by simp [bne, hne]
          have HLQ : Hid (labOf true z3 = z3 / 16) := by
            show _ = _
            unfold labOf
            rw [decide_eq_true hg0]
            rfl
          have hq1 : (z3 : Int) / 16 < 4294967296 := by omega
          have hq0 : 0 ≤ (z3 : Int) / 16 := by omega
          have HE : Hid ((Nl.cs ⟨f, 0, ⟨#[]⟩, 0, (z1 : Nat), 0⟩).toArray.setIfInBounds 5 (.int .u32 ((z3 : Int) / 16)) = (Nl.cs ⟨f, 0, ⟨#[]⟩, 0, (z1 : Nat), ((z3 : Int) / 16)⟩).toArray) := rfl
          go_wp2_with (with_reducible show wpList _ _ _ (_ :: _) _ _; refine wpList_nl_set rfl 45 (.tmp 67) (.tmp 66) rfl 5 rfl (.int .u32 ((z3 : Int) / 16)) rfl (by kernel_rfl) HN6 ⟨f, 0, ⟨#[]⟩, 0, (z1 : Nat), ((z3 : Int) / 16)⟩ HE (by omega) rfl ?_)
          intro V7 HN7
          clear HN6 HE
          go_wp2_with fail
          refine (HAB.out _).mono ?_
          rintro e w1 ⟨rfl, hw⟩
          rw [hw]
          clear hw
          obtain ⟨z4, HZz4⟩ : ∃ x9, Hid (x9 = tN t3 8) := ⟨_, rfl⟩
          obtain ⟨t4, HTz4⟩ : ∃ x9, Hid (x9 = tR t3 8) := ⟨_, rfl⟩
          obtain ⟨b4, HBz4⟩ : ∃ x9, Hid (x9 = tW t3 8 true) := ⟨_, rfl⟩
          have HRz4 : Hid (rdIf true t3 8 true = (z4, t4, b4)) := by
            show (tN t3 8, tR t3 8, tW t3 8 true) = _
            rw [HZz4.out, HTz4.out, HBz4.out]
          have hlz4 : z4 < 18446744073709551616 := by rw [HZz4.out]; exact tN_lt t3 8
          have hmt4 : (t4.size : Int) ≤ 9223372036854775807 := by
            have h := tR_size t3 8
            rw [← HTz4.out] at h
            omega
          have HCz4 : Hid (∀ V, DecAt V (w.heap.size + 1) w.heap.size (w.heap.size + 1 + 1) t3 true → Calls Try.prog 53 #[.int .i64 8, .pointer (some ⟨w.heap.size + 1, 0, none⟩), .pointer (some ⟨w.heap.size + 1 + 1, 0, none⟩)] V (NTake V (w.heap.size + 1) w.heap.size (w.heap.size + 1 + 1) (z4 : Nat) t4 b4)) := fun V h => by
            rw [HZz4.out, HTz4.out, HBz4.out]
            exact ntake_any _ _ _ t3 8 true V h (by omega) (by omega) hmt3 rfl
          go_wp2_with fail
          refine (HCz4.out _ HN7.out.s.d).mono ?_
          rintro e V8 hnt
          have HN8 := Lib.hid (HN7.out.took hnt)
          obtain ⟨rfl, hx, hy⟩ := hnt
          clear hx hy HN7 HZz4 HTz4 HBz4 HCz4
          obtain rfl : b4 = true := by
            have h := HRz4.out
            exact (congrArg (fun x => x.2.2) h).symm
          have HE : Hid ((Nl.cs ⟨f, 0, ⟨#[]⟩, 0, (z1 : Nat), ((z3 : Int) / 16)⟩).toArray.setIfInBounds 1 (.int .u64 (z4 : Nat)) = (Nl.cs ⟨f, (z4 : Nat), ⟨#[]⟩, 0, (z1 : Nat), ((z3 : Int) / 16)⟩).toArray) := rfl
          go_wp2_with (with_reducible show wpList _ _ _ (_ :: _) _ _; refine wpList_nl_set rfl 42 (.tmp 73) (.tmp 71) rfl 1 rfl (.int .u64 (z4 : Nat)) rfl (by kernel_rfl) HN8 ⟨f, (z4 : Nat), ⟨#[]⟩, 0, (z1 : Nat), ((z3 : Int) / 16)⟩ HE (by omega) rfl ?_)
          intro V9 HN9
          clear HN8 HE
          have HSP : Hid (decStep f true t = decTail f z1 (labOf true z3) z4 ((z2 : Int) - 88) t4 true) := by
            show _ = _
            have h := decStep_eq (f := f) (add := true) (z1 := z1) (t1 := t1) (b1 := b1) (z2 := z2) (t2 := t2) (b2 := b2) (z3 := z3) (t3 := t3) (b3 := true) (fl := true) (z4 := z4) (t4 := t4) (b4 := true) HRz1.out HRz2.out (by rw [HLAB.out]; exact HRz3.out) (by rw [HLAB.out]; exact rfl) (by rw [HAP.out]; exact HRz4.out)
            rw [HLAB.out, HAHV.out] at h
            exact h
          have HNO := Lib.hid (run_err HR.out HT0.out (HSP.out.trans (tail_bad)))
          have p9 := HN9.out.p9
          have p10 := HN9.out.p10
          go_wp2_with fail
          go_ret2
          exact DecPost.no HNO.out rfl HN9.out.s.bl
      | false =>
        by_cases hpar : z3 % 2 = 0
        · by_cases hg0 : z3 = 8388608
          · subst hg0
            have hand : bits BinOp.and IntKind.u64 8388608 1 = 0 := by decide
            have p10 := HN5.out.p10
            go_wp2_with (with_reducible show wpList _ _ _ (_ :: _) _ _; refine wpList_nl_flag rfl (.tmp 10) (.tmp 61) rfl rfl false rfl HN5 ?_)
            intro V6 HN6
            clear p10 HN5
            go_wp2_with fail
            refine (HAB.out _).mono ?_
            rintro e w1 ⟨rfl, hw⟩
            rw [hw]
            clear hw
            obtain ⟨z4, HZz4⟩ : ∃ x9, Hid (x9 = tN t3 8) := ⟨_, rfl⟩
            obtain ⟨t4, HTz4⟩ : ∃ x9, Hid (x9 = tR t3 8) := ⟨_, rfl⟩
            obtain ⟨b4, HBz4⟩ : ∃ x9, Hid (x9 = tW t3 8 false) := ⟨_, rfl⟩
            have HRz4 : Hid (rdIf true t3 8 false = (z4, t4, b4)) := by
              show (tN t3 8, tR t3 8, tW t3 8 false) = _
              rw [HZz4.out, HTz4.out, HBz4.out]
            have hlz4 : z4 < 18446744073709551616 := by rw [HZz4.out]; exact tN_lt t3 8
            have hmt4 : (t4.size : Int) ≤ 9223372036854775807 := by
              have h := tR_size t3 8
              rw [← HTz4.out] at h
              omega
            have HCz4 : Hid (∀ V, DecAt V (w.heap.size + 1) w.heap.size (w.heap.size + 1 + 1) t3 false → Calls Try.prog 53 #[.int .i64 8, .pointer (some ⟨w.heap.size + 1, 0, none⟩), .pointer (some ⟨w.heap.size + 1 + 1, 0, none⟩)] V (NTake V (w.heap.size + 1) w.heap.size (w.heap.size + 1 + 1) (z4 : Nat) t4 b4)) := fun V h => by
              rw [HZz4.out, HTz4.out, HBz4.out]
              exact ntake_any _ _ _ t3 8 false V h (by omega) (by omega) hmt3 rfl
            go_wp2_with fail
            refine (HCz4.out _ HN6.out.s.d).mono ?_
            rintro e V7 hnt
            have HN7 := Lib.hid (HN6.out.took hnt)
            obtain ⟨rfl, hx, hy⟩ := hnt
            clear hx hy HN6 HZz4 HTz4 HBz4 HCz4
            have HE : Hid ((Nl.cs ⟨f, 0, ⟨#[]⟩, 0, (z1 : Nat), 0⟩).toArray.setIfInBounds 1 (.int .u64 (z4 : Nat)) = (Nl.cs ⟨f, (z4 : Nat), ⟨#[]⟩, 0, (z1 : Nat), 0⟩).toArray) := rfl
            go_wp2_with (with_reducible show wpList _ _ _ (_ :: _) _ _; refine wpList_nl_set rfl 42 (.tmp 73) (.tmp 71) rfl 1 rfl (.int .u64 (z4 : Nat)) rfl (by kernel_rfl) HN7 ⟨f, (z4 : Nat), ⟨#[]⟩, 0, (z1 : Nat), 0⟩ HE (by omega) rfl ?_)
            intro V8 HN8
            clear HN7 HE
            cases b4 with
            | true =>
              have HSP : Hid (decStep f true t = decTail f z1 (labOf true 8388608) z4 ((z2 : Int) - 88) t4 true) := by
                show _ = _
                have h := decStep_eq (f := f) (add := true) (z1 := z1) (t1 := t1) (b1 := b1) (z2 := z2) (t2 := t2) (b2 := b2) (z3 := 8388608) (t3 := t3) (b3 := false) (fl := false) (z4 := z4) (t4 := t4) (b4 := true) HRz1.out HRz2.out (by rw [HLAB.out]; exact HRz3.out) (by rw [HLAB.out]; exact rfl) (by rw [HAP.out]; exact HRz4.out)
                rw [HLAB.out, HAHV.out] at h
                exact h
              have HNO := Lib.hid (run_err HR.out HT0.out (HSP.out.trans (tail_bad)))
              have p9 := HN8.out.p9
              have p10 := HN8.out.p10
              go_wp2_with fail
              go_ret2
              exact DecPost.no HNO.out rfl HN8.out.s.bl
            | false =>
              have HSP : Hid (decStep f true t = decTail f z1 (labOf true 8388608) z4 ((z2 : Int) - 88) t4 false) := by
                show _ = _
                have h := decStep_eq (f := f) (add := true) (z1 := z1) (t1 := t1) (b1 := b1) (z2 := z2) (t2 := t2) (b2 := b2) (z3 := 8388608) (t3 := t3) (b3 := false) (fl := false) (z4 := z4) (t4 := t4) (b4 := false) HRz1.out HRz2.out (by rw [HLAB.out]; exact HRz3.out) (by rw [HLAB.out]; exact rfl) (by rw [HAP.out]; exact HRz4.out)
                rw [HLAB.out, HAHV.out] at h
                exact h
              by_cases hn : ((z2 : Int) - 88) < 0
              · have HNO := Lib.hid (run_err HR.out HT0.out (HSP.out.trans (tail_neg hn)))
                have p9 := HN8.out.p9
                have p10 := HN8.out.p10
                go_wp2_with fail
                go_ret2
                exact DecPost.no HNO.out rfl HN8.out.s.bl
              · have hn2 : 0 ≤ ((z2 : Int) - 88) := by omega
                by_cases hg : 8 * (sz : Int) < ((z2 : Int) - 88)
                · have HNO := Lib.hid (run_err HR.out HT0.out (HSP.out.trans (tail_big (by rw [HSZ.out]; exact hg))))
                  have p9 := HN8.out.p9
                  have p10 := HN8.out.p10
                  go_wp2_with fail
                  go_ret2
                  exact DecPost.no HNO.out rfl HN8.out.s.bl
                · obtain ⟨k, hk⟩ : ∃ k : Nat, k = (((z2 : Int) - 88).toNat + 7) / 8 := ⟨_, rfl⟩
                  have HK := Lib.hid hk
                  have HWH : Hid (∀ w, Calls Try.prog 58 #[.int .i64 ((z2 : Int) - 88)] w fun e w' => e = .returned (.int .i64 (k : Int)) ∧ w' = w) := fun w => by
                    have h := whole_any ((z2 : Int) - 88).toNat w (by omega)
                    rwa [show ((((z2 : Int) - 88).toNat : Nat) : Int) = ((z2 : Int) - 88) by omega, ← hk] at h
                  have hk1 : ((z2 : Int) - 88) ≤ 8 * (k : Int) := by omega
                  have hk2 : 8 * (k : Int) - ((z2 : Int) - 88) ≤ 7 := by omega
                  have HKS : Hid (k ≤ sz) := by
                    show _ ≤ _
                    omega
                  clear hk
                  by_cases hkt : k ≤ t4.size
                  · obtain ⟨told, HTO⟩ : ∃ x, Hid (x = t4.extract 0 k) := ⟨_, rfl⟩
                    obtain ⟨t5, HT5⟩ : ∃ x, Hid (x = t4.extract k t4.size) := ⟨_, rfl⟩
                    have HTS : Hid (told.size = k) := by
                      show _ = _
                      rw [HTO.out, ByteArray.size_extract]
                      omega
                    have HTK : Hid (∀ W, RdAt W w.heap.size t4 → Calls Try.prog 39 #[.pointer (some ⟨w.heap.size, 0, none⟩), .int .i64 (k : Int)] W fun e w' => e = .returned (.tuple #[.string told, .bool true]) ∧ w' = W.setCell ⟨w.heap.size, 1, none⟩ (.string t5)) := fun W h => by
                      have h := take_ok w.heap.size t4 k W h (by omega) (by omega) (by omega)
                      rw [Int.toNat_natCast] at h
                      rw [HTO.out, HT5.out]
                      exact h
                    have HST : Hid (decStep f true t = some (⟨f, (z4 : Nat), addrB sz ((z2 : Int) - 88) told, ((z2 : Int) - 88), (z1 : Nat), (0 : Nat)⟩, t5)) := by
                      show _ = _
                      have h := tail_ok (f := f) (id := z1) (label := labOf true 8388608) (rd := z4) (bits := ((z2 : Int) - 88)) (t4 := t4) hn (by rw [HSZ.out]; exact hg) (by rw [← HK.out]; exact hkt)
                      rw [← HK.out, ← HTO.out, ← HT5.out, HSZ.out, Int.toNat_natCast] at h
                      exact HSP.out.trans h
                    clear HSP HTO HT5 HK
                    have HN8d : Hid (DecN w V8.drew (w.heap.size + 1) w.heap.size (w.heap.size + 1 + 1) t4 false (.slice A L.length c) L wr.heap.size ⟨f, (z4 : Nat), ⟨#[]⟩, 0, (z1 : Nat), 0⟩) := HN8.out.drew
                    have p9 := HN8.out.p9
                    have p10 := HN8.out.p10
                    go_wp2_with fail
                    refine wp_region_held_drew (S := fun w' => w'.cell? ⟨w.heap.size + 1, 0, none⟩ = some (.pointer (some ⟨w.heap.size, 0, none⟩))) (by kernel_rfl) (HN8d.out.p9) (fun hHeld => ?_)
                    refine wpAnyH_take (i := 0) (oi := { dst := some 86, op := Op.load 70 (Operand.tmp 9), type := 70, pos := "nlri.go:132", after := #[], guard := none }) (v := ?_) rfl (by kernel_rfl) (by kernel_rfl) (by kernel_rfl) (fun _ _ _ h => h) (Or.inl ⟨by rfl, ?_⟩) hHeld ?_
                    rotate_left
                    · intro w hSw
                      have q9 := hSw
                      go_simp
                      try with_reducible rfl
                    try simp only [Act.put, List.setIfInBounds_toArray, List.set_cons_zero, List.set_cons_succ]
                    refine wpAnyH_take (i := 1) (oi := { dst := some 87, op := Op.move (Operand.tmp 14), type := 3, pos := "nlri.go:132", after := #[], guard := none }) (v := ?_) rfl (by kernel_rfl) (by kernel_rfl) (by kernel_rfl) (fun _ _ _ h => h) (Or.inl ⟨by rfl, ?_⟩) hHeld ?_
                    rotate_left
                    · intro w hSw
                      try clear hSw
                      go_simp
                      try with_reducible rfl
                    try simp only [Act.put, List.setIfInBounds_toArray, List.set_cons_zero, List.set_cons_succ]
                    refine wpAnyH_ready (rs := [2]) (by kernel_rfl) (by simp) ?_
                    refine AllReadyH.cons (o := { dst := some 88, op := Op.call { callee := Callee.value (Operand.func 58), args := #[Operand.tmp 87], argTypes := #[3] }, type := 3, pos := "nlri.go:132", after := #[{ on := 1, ground := Ground.data }], guard := none }) rfl (fun K hK => ?_) AllReadyH.nil
                    go_simp
                    refine (HWH.out _).mono ?_
                    rintro e w5 ⟨rfl, hw⟩
                    rw [hw]
                    clear hw
                    go_wp2_with fail
                    refine hK.out _ _ (hHeld) (fun hHeld => ?_)
                    clear hK K
                    try simp only [Act.put, List.setIfInBounds_toArray, List.set_cons_zero, List.set_cons_succ]
                    refine wpAnyH_ready (rs := [3]) (by kernel_rfl) (by simp) ?_
                    refine AllReadyH.cons (o := { dst := some 89, op := Op.call { callee := Callee.value (Operand.func 39), args := #[Operand.tmp 86, Operand.tmp 88], argTypes := #[70, 3] }, type := 75, pos := "nlri.go:132", after := #[{ on := 0, ground := Ground.data }, { on := 2, ground := Ground.data }, { on := 2, ground := Ground.chain }], guard := none }) rfl (fun K hK => ?_) AllReadyH.nil
                    go_simp
                    refine (HTK.out _ HN8d.out.s.d.rd).mono ?_
                    rintro e V9 ⟨rfl, hw⟩
                    have HN9 : Hid (DecN w V9 (w.heap.size + 1) w.heap.size (w.heap.size + 1 + 1) t5 false (.slice A L.length c) L wr.heap.size ⟨f, (z4 : Nat), ⟨#[]⟩, 0, (z1 : Nat), 0⟩) := by
                      show DecN _ _ _ _ _ _ _ _ _ _ _
                      rw [hw]
                      exact HN8d.out.taken t5
                    clear hw
                    go_wp2_with fail
                    refine hK.out _ _ (HN9.out.p9) (fun hHeld => ?_)
                    clear hK K
                    try simp only [Act.put, List.setIfInBounds_toArray, List.set_cons_zero, List.set_cons_succ]
                    refine wpAnyH_take (i := 4) (oi := { dst := some 85, op := Op.move (Operand.tmp 89), type := 75, pos := "nlri.go:132", after := #[{ on := 3, ground := Ground.data }], guard := none }) (v := ?_) rfl (by kernel_rfl) (by kernel_rfl) (by kernel_rfl) (fun _ _ _ h => h) (Or.inl ⟨by rfl, ?_⟩) hHeld ?_
                    rotate_left
                    · intro w hSw
                      try clear hSw
                      go_simp
                      try with_reducible rfl
                    try simp only [Act.put, List.setIfInBounds_toArray, List.set_cons_zero, List.set_cons_succ]
                    refine wpAnyH_take (i := 5) (oi := { dst := some 90, op := Op.extract (Operand.tmp 85) 0, type := 9, pos := "nlri.go:132", after := #[{ on := 4, ground := Ground.data }], guard := none }) (v := ?_) rfl (by kernel_rfl) (by kernel_rfl) (by kernel_rfl) (fun _ _ _ h => h) (Or.inl ⟨by rfl, ?_⟩) hHeld ?_
                    rotate_left
                    · intro w hSw
                      try clear hSw
                      go_simp
                      try with_reducible rfl
                    try simp only [Act.put, List.setIfInBounds_toArray, List.set_cons_zero, List.set_cons_succ]
                    refine wpAnyH_take (i := 6) (oi := { dst := some 91, op := Op.extract (Operand.tmp 85) 1, type := 4, pos := "nlri.go:132", after := #[{ on := 4, ground := Ground.data }, { on := 7, ground := Ground.gcOnly Departure.lateStores }], guard := none }) (v := ?_) rfl (by kernel_rfl) (by kernel_rfl) (by kernel_rfl) (fun _ _ _ h => h) (Or.inl ⟨by rfl, ?_⟩) hHeld ?_
                    rotate_left
                    · intro w hSw
                      try clear hSw
                      go_simp
                      try with_reducible rfl
                    try simp only [Act.put, List.setIfInBounds_toArray, List.set_cons_zero, List.set_cons_succ]
                    refine wpAnyH_take (i := 7) (oi := { dst := some 16, op := Op.assign (Operand.tmp 90), type := 9, pos := "nlri.go:132", after := #[{ on := 5, ground := Ground.data }, { on := 3, ground := Ground.chain }, { on := 0, ground := Ground.phase }, { on := 1, ground := Ground.phase }, { on := 2, ground := Ground.phase }, { on := 3, ground := Ground.phase }, { on := 4, ground := Ground.phase }, { on := 5, ground := Ground.phase }, { on := 6, ground := Ground.textOnly Departure.lateStores }], guard := none }) (v := ?_) rfl (by kernel_rfl) (by kernel_rfl) (by kernel_rfl) (fun _ _ _ h => h) (Or.inl ⟨by rfl, ?_⟩) hHeld ?_
                    rotate_left
                    · intro w hSw
                      try clear hSw
                      go_simp
                      try with_reducible rfl
                    try simp only [Act.put, List.setIfInBounds_toArray, List.set_cons_zero, List.set_cons_succ]
                    refine wpAnyH_take (i := 8) (oi := { dst := some 17, op := Op.assign (Operand.tmp 91), type := 4, pos := "nlri.go:132", after := #[{ on := 6, ground := Ground.data }, { on := 7, ground := Ground.chain }, { on := 0, ground := Ground.phase }, { on := 1, ground := Ground.phase }, { on := 2, ground := Ground.phase }, { on := 3, ground := Ground.phase }, { on := 4, ground := Ground.phase }, { on := 5, ground := Ground.phase }, { on := 6, ground := Ground.phase }, { on := 7, ground := Ground.phase }], guard := none }) (v := ?_) rfl (by kernel_rfl) (by kernel_rfl) (by kernel_rfl) (fun _ _ _ h => h) (Or.inl ⟨by rfl, ?_⟩) hHeld ?_
                    rotate_left
                    · intro w hSw
                      try clear hSw
                      go_simp
                      try with_reducible rfl
                    try simp only [Act.put, List.setIfInBounds_toArray, List.set_cons_zero, List.set_cons_succ]
                    refine wpAnyH_done (by kernel_rfl) ?_ _
                    clear hHeld p9 p10 HN8 HN8d
                    have hb1 : ((z2 : Int) - 88) ≤ 8 * (told.size : Int) := by rw [HTS.out]; exact hk1
                    have hb2 : 8 * (told.size : Int) - ((z2 : Int) - 88) ≤ 7 := by rw [HTS.out]; exact hk2
                    have HLE : Hid (told.size ≤ sz) := by
                      show _ ≤ _
                      rw [HTS.out]
                      exact HKS.out
                    have HADD := Lib.hid (addrL_length HLE.out)
                    clear hk1 hk2 hkt HWH
                    go_wp2_with (with_reducible show wpList _ _ _ (_ :: _) _ _; refine wpList_make_bytes rfl (.tmp 94) (.tmp 94) rfl sz rfl rfl (by omega) ?_)
                    intro V10 HO1 HB1
                    have HN10 := Lib.hid (HN9.out.below HB1.out)
                    go_wp2_with (with_reducible show wpList _ _ _ (_ :: _) _ _; refine wpList_copy_str rfl (.tmp 96) (.tmp 97) rfl V9.heap.size sz V9.heap.size told (List.replicate sz 0) rfl rfl HLE HO1 ?_)
                    intro V11 HO2 HB2
                    have HN11 := Lib.hid (HN9.out.below (HB1.out.trans HB2.out))
                    have HNB : Hid (wr.heap.size < V9.heap.size) := HN9.out.box.lt
                    have HGB : Hid (w.heap.size ≤ V9.heap.size) := HN9.out.s.bl.size
                    clear HO1 HB1 HB2 HN10
                    go_wp2_with fail
                    go_loopw [104] (fun i wz => ∃ j : Nat, i = .int .i64 j ∧ (j : Int) ≤ 8 * (told.size : Int) - ((z2 : Int) - 88) ∧ Hid (DecN w wz (w.heap.size + 1) w.heap.size (w.heap.size + 1 + 1) t5 false (.slice A L.length c) L wr.heap.size ⟨f, (z4 : Nat), ⟨#[]⟩, 0, (z1 : Nat), 0⟩) ∧ Hid (OwnM wz V9.heap.size 5 1 (.slice (some ⟨V9.heap.size, 0, none⟩) sz sz) sz (byteVals (clrL (addrL sz told) (told.size - 1) j)))) (fun i _ => 9 - (intOf i).toNat)
                    case atStart => exact ⟨0, rfl, by omega, HN11.out, by rw [clrL_zero]; exact HO2.out⟩
                    case round =>
                      obtain ⟨j, rfl, hj, HN, HO⟩ := hrel
                      clear HN11 HO2
                      by_cases hlt : (j : Int) < 8 * (told.size : Int) - ((z2 : Int) - 88)
                      · obtain ⟨p, hp⟩ : ∃ p, told.size = p + 1 := ⟨told.size - 1, by omega⟩
                        have hpl : told.size - 1 < sz := by have := HLE.out; omega
                        have hat := clrL_at (addrL sz told) (told.size - 1) j (by rw [HADD.out]; exact hpl)
                        obtain ⟨hc, hf⟩ := HO.out.at_ hpl (byteVals_at _ _ _ hat)
                        have hst := clr_step ((addrL sz told).getD (told.size - 1) 0) j (by omega)
                        have HX := Lib.hid hst
                        have HPL := Lib.hid hpl
                        generalize hx : UInt8.ofNat (((addrL sz told).getD (told.size - 1) 0).toNat / 2 ^ j * 2 ^ j) = x at hc
                        have HXE := Lib.hid hx
                        have hxl := x.toNat_lt
                        have hp0 : 0 ≤ (told.size : Int) - 1 := by omega
                        have hp1 : (told.size : Int) - 1 < sz := by omega
                        have hj7 : j ≤ 7 := by omega
                        have hj0 : ¬ (j : Int) < 0 := by omega
                        clear hpl hat hst hx hp
                        go_wp2_with fail
                        go_region
                        go_wp2_with fail
                        refine ⟨⟨j + 1, by go_num, by omega, HN.out.drew.high (p := ⟨V9.heap.size, told.size - 1, none⟩) HNB.out _, ?_⟩, by simp [intOf]; omega⟩
                        show OwnM _ _ _ _ _ _ _
                        rw [clrL_succ, ← byteVals_set, ← HX.out, HXE.out]
                        exact (HO.out.store HPL.out _).drew
                      · have hje : 8 * (told.size : Int) - ((z2 : Int) - 88) = j := by omega
                        have HAD : Hid (ByteArray.mk (clrL (addrL sz told) (told.size - 1) j).toArray = addrB sz ((z2 : Int) - 88) told) := addr_clr hb1 hje (by omega) HLE.out
                        have hstr := run_string_m (P := Try.prog) wr 52 9 5 V9.heap.size sz _ (clrL (addrL sz told) (told.size - 1) j) Try.underlying52 Try.underlying5 Try.underlying9 HO.out
                        rw [HAD.out] at hstr
                        generalize had : addrB sz ((z2 : Int) - 88) told = ad at hstr
                        have HADE := Lib.hid had
                        clear had hje HAD HO
                        have HE1 : Hid ((Nl.cs ⟨f, (z4 : Nat), ⟨#[]⟩, 0, (z1 : Nat), 0⟩).toArray.setIfInBounds 2 (.string ad) = (Nl.cs ⟨f, (z4 : Nat), ad, 0, (z1 : Nat), 0⟩).toArray) := rfl
                        have HE2 : Hid ((Nl.cs ⟨f, (z4 : Nat), ad, 0, (z1 : Nat), 0⟩).toArray.setIfInBounds 3 (.int .i64 ((z2 : Int) - 88)) = (Nl.cs ⟨f, (z4 : Nat), ad, ((z2 : Int) - 88), (z1 : Nat), 0⟩).toArray) := rfl
                        go_wp2_with (with_reducible show wpList _ _ _ (_ :: _) _ _; refine wpList_nl_set rfl 9 (.tmp 122) (.tmp 119) rfl 2 rfl (.string ad) rfl (by kernel_rfl) HN ⟨f, (z4 : Nat), ad, 0, (z1 : Nat), 0⟩ HE1 (by omega) rfl ?_)
                        intro V8 HN8
                        go_wp2_with (with_reducible show wpList _ _ _ (_ :: _) _ _; refine wpList_nl_set rfl 3 (.tmp 124) (.tmp 120) rfl 3 rfl (.int .i64 ((z2 : Int) - 88)) rfl (by kernel_rfl) HN8 ⟨f, (z4 : Nat), ad, ((z2 : Int) - 88), (z1 : Nat), 0⟩ HE2 (by omega) rfl ?_)
                        intro V9 HN9
                        clear HE1 HE2 HN HN8 hstr
                        have HBX : Hid (CellsAt V9 _ #[.int .i64 f, .int .u64 (z4 : Nat), .string ad, .int .i64 ((z2 : Int) - 88), .int .u32 (z1 : Nat), .int .u32 0] 47) := HN9.out.box
                        obtain ⟨x0, x1, x2, x3, x4, x5⟩ := HBX.out.c6
                        have HAO : Hid (NlOwn (V9.alloc (.cells #[.int .i64 f, .int .u64 (z4 : Nat), .string ad, .int .i64 ((z2 : Int) - 88), .int .u32 (z1 : Nat), .int .u32 0] 47)) w.heap.size (.slice A L.length c) L) := OwnM.alloc HN9.out.s.own _
                        have HAC : Hid (CellsAt (V9.alloc (.cells #[.int .i64 f, .int .u64 (z4 : Nat), .string ad, .int .i64 ((z2 : Int) - 88), .int .u32 (z1 : Nat), .int .u32 0] 47)) V9.heap.size (Nl.cs ⟨f, (z4 : Nat), ad, ((z2 : Int) - 88), (z1 : Nat), 0⟩).toArray 47) := CellsAt.new _ _ _
                        have HAL : Hid (L.length ≤ 2000000) := by
                          show _ ≤ _
                          omega
                        have HAB2 : Hid (w.heap.size ≤ (V9.alloc (.cells #[.int .i64 f, .int .u64 (z4 : Nat), .string ad, .int .i64 ((z2 : Int) - 88), .int .u32 (z1 : Nat), .int .u32 0] 47)).heap.size) := (HN9.out.s.alloc _).bl.size
                        go_wp2_with (with_reducible show wpList _ _ _ (_ :: _) _ _; refine wpList_append_nl rfl (.tmp 125) (.tmp 127) rfl w.heap.size (.slice A L.length c) L rfl HAO ⟨f, (z4 : Nat), ad, ((z2 : Int) - 88), (z1 : Nat), 0⟩ V9.heap.size rfl HAC HAL HAB2 ?_)
                        intro A9 c9 w9 HOWN HGR
                        have HFIN : Hid (DecS w w9 (w.heap.size + 1) w.heap.size (w.heap.size + 1 + 1) t5 false (.slice A9 (L.length + 1) c9) (L ++ [⟨f, (z4 : Nat), ad, ((z2 : Int) - 88), (z1 : Nat), 0⟩])) := (HN9.out.s.alloc _).appended HOWN.out HGR.out
                        rw [HADE.out] at HST
                        have HRN := Lib.hid (run_ok HR.out HT0.out HST.out)
                        have htl : t5.size < t.size := decStep_lt HST.out
                        go_wp2_with fail
                        exact ⟨⟨A9, c9, L ++ [(⟨f, (z4 : Nat), ad, ((z2 : Int) - 88), (z1 : Nat), 0⟩ : Nl)], t5, n - 1, by simp, by simp; omega, HFIN.out, HRN.out⟩, by simp [lenV]; omega⟩
                  · have HTK : Hid (∀ W, RdAt W w.heap.size t4 → Calls Try.prog 39 #[.pointer (some ⟨w.heap.size, 0, none⟩), .int .i64 (k : Int)] W fun e w' => e = .returned (.tuple #[.string ByteArray.empty, .bool false]) ∧ w' = W) := fun W h => take_no w.heap.size t4 k W h (Or.inr (by omega)) (by omega)
                    have HNO := Lib.hid (run_err HR.out HT0.out (HSP.out.trans (tail_short (by rw [← HK.out]; omega))))
                    have HN8d : Hid (DecN w V8.drew (w.heap.size + 1) w.heap.size (w.heap.size + 1 + 1) t4 false (.slice A L.length c) L wr.heap.size ⟨f, (z4 : Nat), ⟨#[]⟩, 0, (z1 : Nat), 0⟩) := HN8.out.drew
                    have p9 := HN8.out.p9
                    have p10 := HN8.out.p10
                    go_wp2_with fail
                    refine wp_region_held_drew (S := fun w' => w'.cell? ⟨w.heap.size + 1, 0, none⟩ = some (.pointer (some ⟨w.heap.size, 0, none⟩))) (by kernel_rfl) (HN8d.out.p9) (fun hHeld => ?_)
                    refine wpAnyH_take (i := 0) (oi := { dst := some 86, op := Op.load 70 (Operand.tmp 9), type := 70, pos := "nlri.go:132", after := #[], guard := none }) (v := ?_) rfl (by kernel_rfl) (by kernel_rfl) (by kernel_rfl) (fun _ _ _ h => h) (Or.inl ⟨by rfl, ?_⟩) hHeld ?_
                    rotate_left
                    · intro w hSw
                      have q9 := hSw
                      go_simp
                      try with_reducible rfl
                    try simp only [Act.put, List.setIfInBounds_toArray, List.set_cons_zero, List.set_cons_succ]
                    refine wpAnyH_take (i := 1) (oi := { dst := some 87, op := Op.move (Operand.tmp 14), type := 3, pos := "nlri.go:132", after := #[], guard := none }) (v := ?_) rfl (by kernel_rfl) (by kernel_rfl) (by kernel_rfl) (fun _ _ _ h => h) (Or.inl ⟨by rfl, ?_⟩) hHeld ?_
                    rotate_left
                    · intro w hSw
                      try clear hSw
                      go_simp
                      try with_reducible rfl
                    try simp only [Act.put, List.setIfInBounds_toArray, List.set_cons_zero, List.set_cons_succ]
                    refine wpAnyH_ready (rs := [2]) (by kernel_rfl) (by simp) ?_
                    refine AllReadyH.cons (o := { dst := some 88, op := Op.call { callee := Callee.value (Operand.func 58), args := #[Operand.tmp 87], argTypes := #[3] }, type := 3, pos := "nlri.go:132", after := #[{ on := 1, ground := Ground.data }], guard := none }) rfl (fun K hK => ?_) AllReadyH.nil
                    go_simp
                    refine (HWH.out _).mono ?_
                    rintro e w5 ⟨rfl, hw⟩
                    rw [hw]
                    clear hw
                    go_wp2_with fail
                    refine hK.out _ _ (hHeld) (fun hHeld => ?_)
                    clear hK K
                    try simp only [Act.put, List.setIfInBounds_toArray, List.set_cons_zero, List.set_cons_succ]
                    refine wpAnyH_ready (rs := [3]) (by kernel_rfl) (by simp) ?_
                    refine AllReadyH.cons (o := { dst := some 89, op := Op.call { callee := Callee.value (Operand.func 39), args := #[Operand.tmp 86, Operand.tmp 88], argTypes := #[70, 3] }, type := 75, pos := "nlri.go:132", after := #[{ on := 0, ground := Ground.data }, { on := 2, ground := Ground.data }, { on := 2, ground := Ground.chain }], guard := none }) rfl (fun K hK => ?_) AllReadyH.nil
                    go_simp
                    refine (HTK.out _ HN8d.out.s.d.rd).mono ?_
                    rintro e V9 ⟨rfl, hw⟩
                    have HN9 : Hid (DecN w V9 (w.heap.size + 1) w.heap.size (w.heap.size + 1 + 1) t4 false (.slice A L.length c) L wr.heap.size ⟨f, (z4 : Nat), ⟨#[]⟩, 0, (z1 : Nat), 0⟩) := by
                      show DecN _ _ _ _ _ _ _ _ _ _ _
                      rw [hw]
                      exact HN8d.out
                    clear hw
                    go_wp2_with fail
                    refine hK.out _ _ (HN9.out.p9) (fun hHeld => ?_)
                    clear hK K
                    try simp only [Act.put, List.setIfInBounds_toArray, List.set_cons_zero, List.set_cons_succ]
                    refine wpAnyH_take (i := 4) (oi := { dst := some 85, op := Op.move (Operand.tmp 89), type := 75, pos := "nlri.go:132", after := #[{ on := 3, ground := Ground.data }], guard := none }) (v := ?_) rfl (by kernel_rfl) (by kernel_rfl) (by kernel_rfl) (fun _ _ _ h => h) (Or.inl ⟨by rfl, ?_⟩) hHeld ?_
                    rotate_left
                    · intro w hSw
                      try clear hSw
                      go_simp
                      try with_reducible rfl
                    try simp only [Act.put, List.setIfInBounds_toArray, List.set_cons_zero, List.set_cons_succ]
                    refine wpAnyH_take (i := 5) (oi := { dst := some 90, op := Op.extract (Operand.tmp 85) 0, type := 9, pos := "nlri.go:132", after := #[{ on := 4, ground := Ground.data }], guard := none }) (v := ?_) rfl (by kernel_rfl) (by kernel_rfl) (by kernel_rfl) (fun _ _ _ h => h) (Or.inl ⟨by rfl, ?_⟩) hHeld ?_
                    rotate_left
                    · intro w hSw
                      try clear hSw
                      go_simp
                      try with_reducible rfl
                    try simp only [Act.put, List.setIfInBounds_toArray, List.set_cons_zero, List.set_cons_succ]
                    refine wpAnyH_take (i := 6) (oi := { dst := some 91, op := Op.extract (Operand.tmp 85) 1, type := 4, pos := "nlri.go:132", after := #[{ on := 4, ground := Ground.data }, { on := 7, ground := Ground.gcOnly Departure.lateStores }], guard := none }) (v := ?_) rfl (by kernel_rfl) (by kernel_rfl) (by kernel_rfl) (fun _ _ _ h => h) (Or.inl ⟨by rfl, ?_⟩) hHeld ?_
                    rotate_left
                    · intro w hSw
                      try clear hSw
                      go_simp
                      try with_reducible rfl
                    try simp only [Act.put, List.setIfInBounds_toArray, List.set_cons_zero, List.set_cons_succ]
                    refine wpAnyH_take (i := 7) (oi := { dst := some 16, op := Op.assign (Operand.tmp 90), type := 9, pos := "nlri.go:132", after := #[{ on := 5, ground := Ground.data }, { on := 3, ground := Ground.chain }, { on := 0, ground := Ground.phase }, { on := 1, ground := Ground.phase }, { on := 2, ground := Ground.phase }, { on := 3, ground := Ground.phase }, { on := 4, ground := Ground.phase }, { on := 5, ground := Ground.phase }, { on := 6, ground := Ground.textOnly Departure.lateStores }], guard := none }) (v := ?_) rfl (by kernel_rfl) (by kernel_rfl) (by kernel_rfl) (fun _ _ _ h => h) (Or.inl ⟨by rfl, ?_⟩) hHeld ?_
                    rotate_left
                    · intro w hSw
                      try clear hSw
                      go_simp
                      try with_reducible rfl
                    try simp only [Act.put, List.setIfInBounds_toArray, List.set_cons_zero, List.set_cons_succ]
                    refine wpAnyH_take (i := 8) (oi := { dst := some 17, op := Op.assign (Operand.tmp 91), type := 4, pos := "nlri.go:132", after := #[{ on := 6, ground := Ground.data }, { on := 7, ground := Ground.chain }, { on := 0, ground := Ground.phase }, { on := 1, ground := Ground.phase }, { on := 2, ground := Ground.phase }, { on := 3, ground := Ground.phase }, { on := 4, ground := Ground.phase }, { on := 5, ground := Ground.phase }, { on := 6, ground := Ground.phase }, { on := 7, ground := Ground.phase }], guard := none }) (v := ?_) rfl (by kernel_rfl) (by kernel_rfl) (by kernel_rfl) (fun _ _ _ h => h) (Or.inl ⟨by rfl, ?_⟩) hHeld ?_
                    rotate_left
                    · intro w hSw
                      try clear hSw
                      go_simp
                      try with_reducible rfl
                    try simp only [Act.put, List.setIfInBounds_toArray, List.set_cons_zero, List.set_cons_succ]
                    refine wpAnyH_done (by kernel_rfl) ?_ _
                    clear hHeld p9 p10 HN8 HN8d
                    go_wp2_with fail
                    go_ret2
                    exact DecPost.no HNO.out rfl HN9.out.s.bl
          · have hne : (((z3 : Nat) : Int) == 8388608) = false := by rw [beq_eq_false_iff_ne]; omega
            have hnb : (((z3 : Nat) : Int) != 8388608) = true := by simp [bne, hne]
            have HLQ : Hid (labOf true z3 = z3 / 16) := by
              show _ = _
              unfold labOf
              rw [decide_eq_true hg0]
              rfl
            have hq1 : (z3 : Int) / 16 < 4294967296 := by omega
            have hq0 : 0 ≤ (z3 : Int) / 16 := by omega
            have hand : bits BinOp.and IntKind.u64 ((z3 : Nat) : Int) 1 = 0 := by rw [and_par _ (by omega)]; omega
            have p10 := HN5.out.p10
            go_wp2_with (with_reducible show wpList _ _ _ (_ :: _) _ _; refine wpList_nl_flag rfl (.tmp 10) (.tmp 61) rfl rfl true rfl HN5 ?_)
            intro V6 HN6
            clear p10 HN5
            have HE : Hid ((Nl.cs ⟨f, 0, ⟨#[]⟩, 0, (z1 : Nat), 0⟩).toArray.setIfInBounds 5 (.int .u32 ((z3 : Int) / 16)) = (Nl.cs ⟨f, 0, ⟨#[]⟩, 0, (z1 : Nat), ((z3 : Int) / 16)⟩).toArray) := rfl
            go_wp2_with (with_reducible show wpList _ _ _ (_ :: _) _ _; refine wpList_nl_set rfl 45 (.tmp 67) (.tmp 66) rfl 5 rfl (.int .u32 ((z3 : Int) / 16)) rfl (by kernel_rfl) HN6 ⟨f, 0, ⟨#[]⟩, 0, (z1 : Nat), ((z3 : Int) / 16)⟩ HE (by omega) rfl ?_)
            intro V7 HN7
            clear HN6 HE
            go_wp2_with fail
            refine (HAB.out _).mono ?_
            rintro e w1 ⟨rfl, hw⟩
            rw [hw]
            clear hw
            obtain ⟨z4, HZz4⟩ : ∃ x9, Hid (x9 = tN t3 8) := ⟨_, rfl⟩
            obtain ⟨t4, HTz4⟩ : ∃ x9, Hid (x9 = tR t3 8) := ⟨_, rfl⟩
            obtain ⟨b4, HBz4⟩ : ∃ x9, Hid (x9 = tW t3 8 true) := ⟨_, rfl⟩
            have HRz4 : Hid (rdIf true t3 8 true = (z4, t4, b4)) := by
              show (tN t3 8, tR t3 8, tW t3 8 true) = _
              rw [HZz4.out, HTz4.out, HBz4.out]
            have hlz4 : z4 < 18446744073709551616 := by rw [HZz4.out]; exact tN_lt t3 8
            have hmt4 : (t4.size : Int) ≤ 9223372036854775807 := by
              have h := tR_size t3 8
              rw [← HTz4.out] at h
              omega
            have HCz4 : Hid (∀ V, DecAt V (w.heap.size + 1) w.heap.size (w.heap.size + 1 + 1) t3 true → Calls Try.prog 53 #[.int .i64 8, .pointer (some ⟨w.heap.size + 1, 0, none⟩), .pointer (some ⟨w.heap.size + 1 + 1, 0, none⟩)] V (NTake V (w.heap.size + 1) w.heap.size (w.heap.size + 1 + 1) (z4 : Nat) t4 b4)) := fun V h => by
              rw [HZz4.out, HTz4.out, HBz4.out]
              exact ntake_any _ _ _ t3 8 true V h (by omega) (by omega) hmt3 rfl
            go_wp2_with fail
            refine (HCz4.out _ HN7.out.s.d).mono ?_
            rintro e V8 hnt
            have HN8 := Lib.hid (HN7.out.took hnt)
            obtain ⟨rfl, hx, hy⟩ := hnt
            clear hx hy HN7 HZz4 HTz4 HBz4 HCz4
            obtain rfl : b4 = true := by
              have h := HRz4.out
              exact (congrArg (fun x => x.2.2) h).symm
            have HE : Hid ((Nl.cs ⟨f, 0, ⟨#[]⟩, 0, (z1 : Nat), ((z3 : Int) / 16)⟩).toArray.setIfInBounds 1 (.int .u64 (z4 : Nat)) = (Nl.cs ⟨f, (z4 : Nat), ⟨#[]⟩, 0, (z1 : Nat), ((z3 : Int) / 16)⟩).toArray) := rfl
            go_wp2_with (with_reducible show wpList _ _ _ (_ :: _) _ _; refine wpList_nl_set rfl 42 (.tmp 73) (.tmp 71) rfl 1 rfl (.int .u64 (z4 : Nat)) rfl (by kernel_rfl) HN8 ⟨f, (z4 : Nat), ⟨#[]⟩, 0, (z1 : Nat), ((z3 : Int) / 16)⟩ HE (by omega) rfl ?_)
            intro V9 HN9
            clear HN8 HE
            have HSP : Hid (decStep f true t = decTail f z1 (labOf true z3) z4 ((z2 : Int) - 88) t4 true) := by
              show _ = _
              have h := decStep_eq (f := f) (add := true) (z1 := z1) (t1 := t1) (b1 := b1) (z2 := z2) (t2 := t2) (b2 := b2) (z3 := z3) (t3 := t3) (b3 := false) (fl := true) (z4 := z4) (t4 := t4) (b4 := true) HRz1.out HRz2.out (by rw [HLAB.out]; exact HRz3.out) (by rw [HLAB.out]; exact (lBad_yes hpar hg0)) (by rw [HAP.out]; exact HRz4.out)
              rw [HLAB.out, HAHV.out] at h
              exact h
            have HNO := Lib.hid (run_err HR.out HT0.out (HSP.out.trans (tail_bad)))
            have p9 := HN9.out.p9
            have p10 := HN9.out.p10
            go_wp2_with fail
            go_ret2
            exact DecPost.no HNO.out rfl HN9.out.s.bl
        · have hg0 : z3 ≠ 8388608 := by omega
          have hne : (((z3 : Nat) : Int) == 8388608) = false := by rw [beq_eq_false_iff_ne]; omega
          have hnb : (((z3 : Nat) : Int) != 8388608) = true := by simp [bne, hne]
          have HLQ : Hid (labOf true z3 = z3 / 16) := by
            show _ = _
            unfold labOf
            rw [decide_eq_true hg0]
            rfl
          have hq1 : (z3 : Int) / 16 < 4294967296 := by omega
          have hq0 : 0 ≤ (z3 : Int) / 16 := by omega
          have hand : bits BinOp.and IntKind.u64 ((z3 : Nat) : Int) 1 = 1 := by rw [and_par _ (by omega)]; omega
          have p10 := HN5.out.p10
          go_wp2_with (with_reducible show wpList _ _ _ (_ :: _) _ _; refine wpList_nl_flag rfl (.tmp 10) (.tmp 61) rfl rfl false rfl HN5 ?_)
          intro V6 HN6
          clear p10 HN5
          have HE : Hid ((Nl.cs ⟨f, 0, ⟨#[]⟩, 0, (z1 : Nat), 0⟩).toArray.setIfInBounds 5 (.int .u32 ((z3 : Int) / 16)) = (Nl.cs ⟨f, 0, ⟨#[]⟩, 0, (z1 : Nat), ((z3 : Int) / 16)⟩).toArray) := rfl
          go_wp2_with (with_reducible show wpList _ _ _ (_ :: _) _ _; refine wpList_nl_set rfl 45 (.tmp 67) (.tmp 66) rfl 5 rfl (.int .u32 ((z3 : Int) / 16)) rfl (by kernel_rfl) HN6 ⟨f, 0, ⟨#[]⟩, 0, (z1 : Nat), ((z3 : Int) / 16)⟩ HE (by omega) rfl ?_)
          intro V7 HN7
          clear HN6 HE
          go_wp2_with fail
          refine (HAB.out _).mono ?_
          rintro e w1 ⟨rfl, hw⟩
          rw [hw]
          clear hw
          obtain ⟨z4, HZz4⟩ : ∃ x9, Hid (x9 = tN t3 8) := ⟨_, rfl⟩
          obtain ⟨t4, HTz4⟩ : ∃ x9, Hid (x9 = tR t3 8) := ⟨_, rfl⟩
          obtain ⟨b4, HBz4⟩ : ∃ x9, Hid (x9 = tW t3 8 false) := ⟨_, rfl⟩
          have HRz4 : Hid (rdIf true t3 8 false = (z4, t4, b4)) := by
            show (tN t3 8, tR t3 8, tW t3 8 false) = _
            rw [HZz4.out, HTz4.out, HBz4.out]
          have hlz4 : z4 < 18446744073709551616 := by rw [HZz4.out]; exact tN_lt t3 8
          have hmt4 : (t4.size : Int) ≤ 9223372036854775807 := by
            have h := tR_size t3 8
            rw [← HTz4.out] at h
            omega
          have HCz4 : Hid (∀ V, DecAt V (w.heap.size + 1) w.heap.size (w.heap.size + 1 + 1) t3 false → Calls Try.prog 53 #[.int .i64 8, .pointer (some ⟨w.heap.size + 1, 0, none⟩), .pointer (some ⟨w.heap.size + 1 + 1, 0, none⟩)] V (NTake V (w.heap.size + 1) w.heap.size (w.heap.size + 1 + 1) (z4 : Nat) t4 b4)) := fun V h => by
            rw [HZz4.out, HTz4.out, HBz4.out]
            exact ntake_any _ _ _ t3 8 false V h (by omega) (by omega) hmt3 rfl
          go_wp2_with fail
          refine (HCz4.out _ HN7.out.s.d).mono ?_
          rintro e V8 hnt
          have HN8 := Lib.hid (HN7.out.took hnt)
          obtain ⟨rfl, hx, hy⟩ := hnt
          clear hx hy HN7 HZz4 HTz4 HBz4 HCz4
          have HE : Hid ((Nl.cs ⟨f, 0, ⟨#[]⟩, 0, (z1 : Nat), ((z3 : Int) / 16)⟩).toArray.setIfInBounds 1 (.int .u64 (z4 : Nat)) = (Nl.cs ⟨f, (z4 : Nat), ⟨#[]⟩, 0, (z1 : Nat), ((z3 : Int) / 16)⟩).toArray) := rfl
          go_wp2_with (with_reducible show wpList _ _ _ (_ :: _) _ _; refine wpList_nl_set rfl 42 (.tmp 73) (.tmp 71) rfl 1 rfl (.int .u64 (z4 : Nat)) rfl (by kernel_rfl) HN8 ⟨f, (z4 : Nat), ⟨#[]⟩, 0, (z1 : Nat), ((z3 : Int) / 16)⟩ HE (by omega) rfl ?_)
          intro V9 HN9
          clear HN8 HE
          cases b4 with
          | true =>
            have HSP : Hid (decStep f true t = decTail f z1 (labOf true z3) z4 ((z2 : Int) - 88) t4 true) := by
              show _ = _
              have h := decStep_eq (f := f) (add := true) (z1 := z1) (t1 := t1) (b1 := b1) (z2 := z2) (t2 := t2) (b2 := b2) (z3 := z3) (t3 := t3) (b3 := false) (fl := false) (z4 := z4) (t4 := t4) (b4 := true) HRz1.out HRz2.out (by rw [HLAB.out]; exact HRz3.out) (by rw [HLAB.out]; exact (lBad_no hpar)) (by rw [HAP.out]; exact HRz4.out)
              rw [HLAB.out, HAHV.out] at h
              exact h
            have HNO := Lib.hid (run_err HR.out HT0.out (HSP.out.trans (tail_bad)))
            have p9 := HN9.out.p9
            have p10 := HN9.out.p10
            go_wp2_with fail
            go_ret2
            exact DecPost.no HNO.out rfl HN9.out.s.bl
          | false =>
            have HSP : Hid (decStep f true t = decTail f z1 (labOf true z3) z4 ((z2 : Int) - 88) t4 false) := by
              show _ = _
              have h := decStep_eq (f := f) (add := true) (z1 := z1) (t1 := t1) (b1 := b1) (z2 := z2) (t2 := t2) (b2 := b2) (z3 := z3) (t3 := t3) (b3 := false) (fl := false) (z4 := z4) (t4 := t4) (b4 := false) HRz1.out HRz2.out (by rw [HLAB.out]; exact HRz3.out) (by rw [HLAB.out]; exact (lBad_no hpar)) (by rw [HAP.out]; exact HRz4.out)
              rw [HLAB.out, HAHV.out] at h
              exact h
            by_cases hn : ((z2 : Int) - 88) < 0
            · have HNO := Lib.hid (run_err HR.out HT0.out (HSP.out.trans (tail_neg hn)))
              have p9 := HN9.out.p9
              have p10 := HN9.out.p10
              go_wp2_with fail
              go_ret2
              exact DecPost.no HNO.out rfl HN9.out.s.bl
            · have hn2 : 0 ≤ ((z2 : Int) - 88) := by omega
              by_cases hg : 8 * (sz : Int) < ((z2 : Int) - 88)
              · have HNO := Lib.hid (run_err HR.out HT0.out (HSP.out.trans (tail_big (by rw [HSZ.out]; exact hg))))
                have p9 := HN9.out.p9
                have p10 := HN9.out.p10
                go_wp2_with fail
                go_ret2
                exact DecPost.no HNO.out rfl HN9.out.s.bl
              · obtain ⟨k, hk⟩ : ∃ k : Nat, k = (((z2 : Int) - 88).toNat + 7) / 8 := ⟨_, rfl⟩
                have HK := Lib.hid hk
                have HWH : Hid (∀ w, Calls Try.prog 58 #[.int .i64 ((z2 : Int) - 88)] w fun e w' => e = .returned (.int .i64 (k : Int)) ∧ w' = w) := fun w => by
                  have h := whole_any ((z2 : Int) - 88).toNat w (by omega)
                  rwa [show ((((z2 : Int) - 88).toNat : Nat) : Int) = ((z2 : Int) - 88) by omega, ← hk] at h
                have hk1 : ((z2 : Int) - 88) ≤ 8 * (k : Int) := by omega
                have hk2 : 8 * (k : Int) - ((z2 : Int) - 88) ≤ 7 := by omega
                have HKS : Hid (k ≤ sz) := by
                  show _ ≤ _
                  omega
                clear hk
                by_cases hkt : k ≤ t4.size
                · obtain ⟨told, HTO⟩ : ∃ x, Hid (x = t4.extract 0 k) := ⟨_, rfl⟩
                  obtain ⟨t5, HT5⟩ : ∃ x, Hid (x = t4.extract k t4.size) := ⟨_, rfl⟩
                  have HTS : Hid (told.size = k) := by
                    show _ = _
                    rw [HTO.out, ByteArray.size_extract]
                    omega
                  have HTK : Hid (∀ W, RdAt W w.heap.size t4 → Calls Try.prog 39 #[.pointer (some ⟨w.heap.size, 0, none⟩), .int .i64 (k : Int)] W fun e w' => e = .returned (.tuple #[.string told, .bool true]) ∧ w' = W.setCell ⟨w.heap.size, 1, none⟩ (.string t5)) := fun W h => by
                    have h := take_ok w.heap.size t4 k W h (by omega) (by omega) (by omega)
                    rw [Int.toNat_natCast] at h
                    rw [HTO.out, HT5.out]
                    exact h
                  have HST : Hid (decStep f true t = some (⟨f, (z4 : Nat), addrB sz ((z2 : Int) - 88) told, ((z2 : Int) - 88), (z1 : Nat), (z3 / 16 : Nat)⟩, t5)) := by
                    show _ = _
                    have h := tail_ok (f := f) (id := z1) (label := labOf true z3) (rd := z4) (bits := ((z2 : Int) - 88)) (t4 := t4) hn (by rw [HSZ.out]; exact hg) (by rw [← HK.out]; exact hkt)
                    rw [← HK.out, ← HTO.out, ← HT5.out, HSZ.out, Int.toNat_natCast] at h
                    rw [← HLQ.out]
                    exact HSP.out.trans h
                  clear HSP HTO HT5 HK
                  have HN9d : Hid (DecN w V9.drew (w.heap.size + 1) w.heap.size (w.heap.size + 1 + 1) t4 false (.slice A L.length c) L wr.heap.size ⟨f, (z4 : Nat), ⟨#[]⟩, 0, (z1 : Nat), ((z3 : Int) / 16)⟩) := HN9.out.drew
                  have p9 := HN9.out.p9
                  have p10 := HN9.out.p10
                  go_wp2_with fail
                  refine wp_region_held_drew (S := fun w' => w'.cell? ⟨w.heap.size + 1, 0, none⟩ = some (.pointer (some ⟨w.heap.size, 0, none⟩))) (by kernel_rfl) (HN9d.out.p9) (fun hHeld => ?_)
                  refine wpAnyH_take (i := 0) (oi := { dst := some 86, op := Op.load 70 (Operand.tmp 9), type := 70, pos := "nlri.go:132", after := #[], guard := none }) (v := ?_) rfl (by kernel_rfl) (by kernel_rfl) (by kernel_rfl) (fun _ _ _ h => h) (Or.inl ⟨by rfl, ?_⟩) hHeld ?_
                  rotate_left
                  · intro w hSw
                    have q9 := hSw
                    go_simp
                    try with_reducible rfl
                  try simp only [Act.put, List.setIfInBounds_toArray, List.set_cons_zero, List.set_cons_succ]
                  refine wpAnyH_take (i := 1) (oi := { dst := some 87, op := Op.move (Operand.tmp 14), type := 3, pos := "nlri.go:132", after := #[], guard := none }) (v := ?_) rfl (by kernel_rfl) (by kernel_rfl) (by kernel_rfl) (fun _ _ _ h => h) (Or.inl ⟨by rfl, ?_⟩) hHeld ?_
                  rotate_left
                  · intro w hSw
                    try clear hSw
                    go_simp
                    try with_reducible rfl
                  try simp only [Act.put, List.setIfInBounds_toArray, List.set_cons_zero, List.set_cons_succ]
                  refine wpAnyH_ready (rs := [2]) (by kernel_rfl) (by simp) ?_
                  refine AllReadyH.cons (o := { dst := some 88, op := Op.call { callee := Callee.value (Operand.func 58), args := #[Operand.tmp 87], argTypes := #[3] }, type := 3, pos := "nlri.go:132", after := #[{ on := 1, ground := Ground.data }], guard := none }) rfl (fun K hK => ?_) AllReadyH.nil
                  go_simp
                  refine (HWH.out _).mono ?_
                  rintro e w5 ⟨rfl, hw⟩
                  rw [hw]
                  clear hw
                  go_wp2_with fail
                  refine hK.out _ _ (hHeld) (fun hHeld => ?_)
                  clear hK K
                  try simp only [Act.put, List.setIfInBounds_toArray, List.set_cons_zero, List.set_cons_succ]
                  refine wpAnyH_ready (rs := [3]) (by kernel_rfl) (by simp) ?_
                  refine AllReadyH.cons (o := { dst := some 89, op := Op.call { callee := Callee.value (Operand.func 39), args := #[Operand.tmp 86, Operand.tmp 88], argTypes := #[70, 3] }, type := 75, pos := "nlri.go:132", after := #[{ on := 0, ground := Ground.data }, { on := 2, ground := Ground.data }, { on := 2, ground := Ground.chain }], guard := none }) rfl (fun K hK => ?_) AllReadyH.nil
                  go_simp
                  refine (HTK.out _ HN9d.out.s.d.rd).mono ?_
                  rintro e V10 ⟨rfl, hw⟩
                  have HN10 : Hid (DecN w V10 (w.heap.size + 1) w.heap.size (w.heap.size + 1 + 1) t5 false (.slice A L.length c) L wr.heap.size ⟨f, (z4 : Nat), ⟨#[]⟩, 0, (z1 : Nat), ((z3 : Int) / 16)⟩) := by
                    show DecN _ _ _ _ _ _ _ _ _ _ _
                    rw [hw]
                    exact HN9d.out.taken t5
                  clear hw
                  go_wp2_with fail
                  refine hK.out _ _ (HN10.out.p9) (fun hHeld => ?_)
                  clear hK K
                  try simp only [Act.put, List.setIfInBounds_toArray, List.set_cons_zero, List.set_cons_succ]
                  refine wpAnyH_take (i := 4) (oi := { dst := some 85, op := Op.move (Operand.tmp 89), type := 75, pos := "nlri.go:132", after := #[{ on := 3, ground := Ground.data }], guard := none }) (v := ?_) rfl (by kernel_rfl) (by kernel_rfl) (by kernel_rfl) (fun _ _ _ h => h) (Or.inl ⟨by rfl, ?_⟩) hHeld ?_
                  rotate_left
                  · intro w hSw
                    try clear hSw
                    go_simp
                    try with_reducible rfl
                  try simp only [Act.put, List.setIfInBounds_toArray, List.set_cons_zero, List.set_cons_succ]
                  refine wpAnyH_take (i := 5) (oi := { dst := some 90, op := Op.extract (Operand.tmp 85) 0, type := 9, pos := "nlri.go:132", after := #[{ on := 4, ground := Ground.data }], guard := none }) (v := ?_) rfl (by kernel_rfl) (by kernel_rfl) (by kernel_rfl) (fun _ _ _ h => h) (Or.inl ⟨by rfl, ?_⟩) hHeld ?_
                  rotate_left
                  · intro w hSw
                    try clear hSw
                    go_simp
                    try with_reducible rfl
                  try simp only [Act.put, List.setIfInBounds_toArray, List.set_cons_zero, List.set_cons_succ]
                  refine wpAnyH_take (i := 6) (oi := { dst := some 91, op := Op.extract (Operand.tmp 85) 1, type := 4, pos := "nlri.go:132", after := #[{ on := 4, ground := Ground.data }, { on := 7, ground := Ground.gcOnly Departure.lateStores }], guard := none }) (v := ?_) rfl (by kernel_rfl) (by kernel_rfl) (by kernel_rfl) (fun _ _ _ h => h) (Or.inl ⟨by rfl, ?_⟩) hHeld ?_
                  rotate_left
                  · intro w hSw
                    try clear hSw
                    go_simp
                    try with_reducible rfl
                  try simp only [Act.put, List.setIfInBounds_toArray, List.set_cons_zero, List.set_cons_succ]
                  refine wpAnyH_take (i := 7) (oi := { dst := some 16, op := Op.assign (Operand.tmp 90), type := 9, pos := "nlri.go:132", after := #[{ on := 5, ground := Ground.data }, { on := 3, ground := Ground.chain }, { on := 0, ground := Ground.phase }, { on := 1, ground := Ground.phase }, { on := 2, ground := Ground.phase }, { on := 3, ground := Ground.phase }, { on := 4, ground := Ground.phase }, { on := 5, ground := Ground.phase }, { on := 6, ground := Ground.textOnly Departure.lateStores }], guard := none }) (v := ?_) rfl (by kernel_rfl) (by kernel_rfl) (by kernel_rfl) (fun _ _ _ h => h) (Or.inl ⟨by rfl, ?_⟩) hHeld ?_
                  rotate_left
                  · intro w hSw
                    try clear hSw
                    go_simp
                    try with_reducible rfl
                  try simp only [Act.put, List.setIfInBounds_toArray, List.set_cons_zero, List.set_cons_succ]
                  refine wpAnyH_take (i := 8) (oi := { dst := some 17, op := Op.assign (Operand.tmp 91), type := 4, pos := "nlri.go:132", after := #[{ on := 6, ground := Ground.data }, { on := 7, ground := Ground.chain }, { on := 0, ground := Ground.phase }, { on := 1, ground := Ground.phase }, { on := 2, ground := Ground.phase }, { on := 3, ground := Ground.phase }, { on := 4, ground := Ground.phase }, { on := 5, ground := Ground.phase }, { on := 6, ground := Ground.phase }, { on := 7, ground := Ground.phase }], guard := none }) (v := ?_) rfl (by kernel_rfl) (by kernel_rfl) (by kernel_rfl) (fun _ _ _ h => h) (Or.inl ⟨by rfl, ?_⟩) hHeld ?_
                  rotate_left
                  · intro w hSw
                    try clear hSw
                    go_simp
                    try with_reducible rfl
                  try simp only [Act.put, List.setIfInBounds_toArray, List.set_cons_zero, List.set_cons_succ]
                  refine wpAnyH_done (by kernel_rfl) ?_ _
                  clear hHeld p9 p10 HN9 HN9d
                  have hb1 : ((z2 : Int) - 88) ≤ 8 * (told.size : Int) := by rw [HTS.out]; exact hk1
                  have hb2 : 8 * (told.size : Int) - ((z2 : Int) - 88) ≤ 7 := by rw [HTS.out]; exact hk2
                  have HLE : Hid (told.size ≤ sz) := by
                    show _ ≤ _
                    rw [HTS.out]
                    exact HKS.out
                  have HADD := Lib.hid (addrL_length HLE.out)
                  clear hk1 hk2 hkt HWH
                  go_wp2_with (with_reducible show wpList _ _ _ (_ :: _) _ _; refine wpList_make_bytes rfl (.tmp 94) (.tmp 94) rfl sz rfl rfl (by omega) ?_)
                  intro V11 HO1 HB1
                  have HN11 := Lib.hid (HN10.out.below HB1.out)
                  go_wp2_with (with_reducible show wpList _ _ _ (_ :: _) _ _; refine wpList_copy_str rfl (.tmp 96) (.tmp 97) rfl V10.heap.size sz V10.heap.size told (List.replicate sz 0) rfl rfl HLE HO1 ?_)
                  intro V12 HO2 HB2
                  have HN12 := Lib.hid (HN10.out.below (HB1.out.trans HB2.out))
                  have HNB : Hid (wr.heap.size < V10.heap.size) := HN10.out.box.lt
                  have HGB : Hid (w.heap.size ≤ V10.heap.size) := HN10.out.s.bl.size
                  clear HO1 HB1 HB2 HN11
                  go_wp2_with fail
                  go_loopw [104] (fun i wz => ∃ j : Nat, i = .int .i64 j ∧ (j : Int) ≤ 8 * (told.size : Int) - ((z2 : Int) - 88) ∧ Hid (DecN w wz (w.heap.size + 1) w.heap.size (w.heap.size + 1 + 1) t5 false (.slice A L.length c) L wr.heap.size ⟨f, (z4 : Nat), ⟨#[]⟩, 0, (z1 : Nat), ((z3 : Int) / 16)⟩) ∧ Hid (OwnM wz V10.heap.size 5 1 (.slice (some ⟨V10.heap.size, 0, none⟩) sz sz) sz (byteVals (clrL (addrL sz told) (told.size - 1) j)))) (fun i _ => 9 - (intOf i).toNat)
                  case atStart => exact ⟨0, rfl, by omega, HN12.out, by rw [clrL_zero]; exact HO2.out⟩
                  case round =>
                    obtain ⟨j, rfl, hj, HN, HO⟩ := hrel
                    clear HN12 HO2
                    by_cases hlt : (j : Int) < 8 * (told.size : Int) - ((z2 : Int) - 88)
                    · obtain ⟨p, hp⟩ : ∃ p, told.size = p + 1 := ⟨told.size - 1, by omega⟩
                      have hpl : told.size - 1 < sz := by have := HLE.out; omega
                      have hat := clrL_at (addrL sz told) (told.size - 1) j (by rw [HADD.out]; exact hpl)
                      obtain ⟨hc, hf⟩ := HO.out.at_ hpl (byteVals_at _ _ _ hat)
                      have hst := clr_step ((addrL sz told).getD (told.size - 1) 0) j (by omega)
                      have HX := Lib.hid hst
                      have HPL := Lib.hid hpl
                      generalize hx : UInt8.ofNat (((addrL sz told).getD (told.size - 1) 0).toNat / 2 ^ j * 2 ^ j) = x at hc
                      have HXE := Lib.hid hx
                      have hxl := x.toNat_lt
                      have hp0 : 0 ≤ (told.size : Int) - 1 := by omega
                      have hp1 : (told.size : Int) - 1 < sz := by omega
                      have hj7 : j ≤ 7 := by omega
                      have hj0 : ¬ (j : Int) < 0 := by omega
                      clear hpl hat hst hx hp
                      go_wp2_with fail
                      go_region
                      go_wp2_with fail
                      refine ⟨⟨j + 1, by go_num, by omega, HN.out.drew.high (p := ⟨V10.heap.size, told.size - 1, none⟩) HNB.out _, ?_⟩, by simp [intOf]; omega⟩
                      show OwnM _ _ _ _ _ _ _
                      rw [clrL_succ, ← byteVals_set, ← HX.out, HXE.out]
                      exact (HO.out.store HPL.out _).drew
                    · have hje : 8 * (told.size : Int) - ((z2 : Int) - 88) = j := by omega
                      have HAD : Hid (ByteArray.mk (clrL (addrL sz told) (told.size - 1) j).toArray = addrB sz ((z2 : Int) - 88) told) := addr_clr hb1 hje (by omega) HLE.out
                      have hstr := run_string_m (P := Try.prog) wr 52 9 5 V10.heap.size sz _ (clrL (addrL sz told) (told.size - 1) j) Try.underlying52 Try.underlying5 Try.underlying9 HO.out
                      rw [HAD.out] at hstr
                      generalize had : addrB sz ((z2 : Int) - 88) told = ad at hstr
                      have HADE := Lib.hid had
                      clear had hje HAD HO
                      have HE1 : Hid ((Nl.cs ⟨f, (z4 : Nat), ⟨#[]⟩, 0, (z1 : Nat), ((z3 : Int) / 16)⟩).toArray.setIfInBounds 2 (.string ad) = (Nl.cs ⟨f, (z4 : Nat), ad, 0, (z1 : Nat), ((z3 : Int) / 16)⟩).toArray) := rfl
                      have HE2 : Hid ((Nl.cs ⟨f, (z4 : Nat), ad, 0, (z1 : Nat), ((z3 : Int) / 16)⟩).toArray.setIfInBounds 3 (.int .i64 ((z2 : Int) - 88)) = (Nl.cs ⟨f, (z4 : Nat), ad, ((z2 : Int) - 88), (z1 : Nat), ((z3 : Int) / 16)⟩).toArray) := rfl
                      go_wp2_with (with_reducible show wpList _ _ _ (_ :: _) _ _; refine wpList_nl_set rfl 9 (.tmp 122) (.tmp 119) rfl 2 rfl (.string ad) rfl (by kernel_rfl) HN ⟨f, (z4 : Nat), ad, 0, (z1 : Nat), ((z3 : Int) / 16)⟩ HE1 (by omega) rfl ?_)
                      intro V8 HN8
                      go_wp2_with (with_reducible show wpList _ _ _ (_ :: _) _ _; refine wpList_nl_set rfl 3 (.tmp 124) (.tmp 120) rfl 3 rfl (.int .i64 ((z2 : Int) - 88)) rfl (by kernel_rfl) HN8 ⟨f, (z4 : Nat), ad, ((z2 : Int) - 88), (z1 : Nat), ((z3 : Int) / 16)⟩ HE2 (by omega) rfl ?_)
                      intro V9 HN9
                      clear HE1 HE2 HN HN8 hstr
                      have HBX : Hid (CellsAt V9 _ #[.int .i64 f, .int .u64 (z4 : Nat), .string ad, .int .i64 ((z2 : Int) - 88), .int .u32 (z1 : Nat), .int .u32 ((z3 : Int) / 16)] 47) := HN9.out.box
                      obtain ⟨x0, x1, x2, x3, x4, x5⟩ := HBX.out.c6
                      have HAO : Hid (NlOwn (V9.alloc (.cells #[.int .i64 f, .int .u64 (z4 : Nat), .string ad, .int .i64 ((z2 : Int) - 88), .int .u32 (z1 : Nat), .int .u32 ((z3 : Int) / 16)] 47)) w.heap.size (.slice A L.length c) L) := OwnM.alloc HN9.out.s.own _
                      have HAC : Hid (CellsAt (V9.alloc (.cells #[.int .i64 f, .int .u64 (z4 : Nat), .string ad, .int .i64 ((z2 : Int) - 88), .int .u32 (z1 : Nat), .int .u32 ((z3 : Int) / 16)] 47)) V9.heap.size (Nl.cs ⟨f, (z4 : Nat), ad, ((z2 : Int) - 88), (z1 : Nat), ((z3 : Int) / 16)⟩).toArray 47) := CellsAt.new _ _ _
                      have HAL : Hid (L.length ≤ 2000000) := by
                        show _ ≤ _
                        omega
                      have HAB2 : Hid (w.heap.size ≤ (V9.alloc (.cells #[.int .i64 f, .int .u64 (z4 : Nat), .string ad, .int .i64 ((z2 : Int) - 88), .int .u32 (z1 : Nat), .int .u32 ((z3 : Int) / 16)] 47)).heap.size) := (HN9.out.s.alloc _).bl.size
                      go_wp2_with (with_reducible show wpList _ _ _ (_ :: _) _ _; refine wpList_append_nl rfl (.tmp 125) (.tmp 127) rfl w.heap.size (.slice A L.length c) L rfl HAO ⟨f, (z4 : Nat), ad, ((z2 : Int) - 88), (z1 : Nat), ((z3 : Int) / 16)⟩ V9.heap.size rfl HAC HAL HAB2 ?_)
                      intro A9 c9 w9 HOWN HGR
                      have HFIN : Hid (DecS w w9 (w.heap.size + 1) w.heap.size (w.heap.size + 1 + 1) t5 false (.slice A9 (L.length + 1) c9) (L ++ [⟨f, (z4 : Nat), ad, ((z2 : Int) - 88), (z1 : Nat), ((z3 : Int) / 16)⟩])) := (HN9.out.s.alloc _).appended HOWN.out HGR.out
                      rw [HADE.out] at HST
                      have HRN := Lib.hid (run_ok HR.out HT0.out HST.out)
                      have htl : t5.size < t.size := decStep_lt HST.out
                      go_wp2_with fail
                      exact ⟨⟨A9, c9, L ++ [(⟨f, (z4 : Nat), ad, ((z2 : Int) - 88), (z1 : Nat), ((z3 : Int) / 16)⟩ : Nl)], t5, n - 1, by simp, by simp; omega, HFIN.out, HRN.out⟩, by simp [lenV]; omega⟩
                · have HTK : Hid (∀ W, RdAt W w.heap.size t4 → Calls Try.prog 39 #[.pointer (some ⟨w.heap.size, 0, none⟩), .int .i64 (k : Int)] W fun e w' => e = .returned (.tuple #[.string ByteArray.empty, .bool false]) ∧ w' = W) := fun W h => take_no w.heap.size t4 k W h (Or.inr (by omega)) (by omega)
                  have HNO := Lib.hid (run_err HR.out HT0.out (HSP.out.trans (tail_short (by rw [← HK.out]; omega))))
                  have HN9d : Hid (DecN w V9.drew (w.heap.size + 1) w.heap.size (w.heap.size + 1 + 1) t4 false (.slice A L.length c) L wr.heap.size ⟨f, (z4 : Nat), ⟨#[]⟩, 0, (z1 : Nat), ((z3 : Int) / 16)⟩) := HN9.out.drew
                  have p9 := HN9.out.p9
                  have p10 := HN9.out.p10
                  go_wp2_with fail
                  refine wp_region_held_drew (S := fun w' => w'.cell? ⟨w.heap.size + 1, 0, none⟩ = some (.pointer (some ⟨w.heap.size, 0, none⟩))) (by kernel_rfl) (HN9d.out.p9) (fun hHeld => ?_)
                  refine wpAnyH_take (i := 0) (oi := { dst := some 86, op := Op.load 70 (Operand.tmp 9), type := 70, pos := "nlri.go:132", after := #[], guard := none }) (v := ?_) rfl (by kernel_rfl) (by kernel_rfl) (by kernel_rfl) (fun _ _ _ h => h) (Or.inl ⟨by rfl, ?_⟩) hHeld ?_
                  rotate_left
                  · intro w hSw
                    have q9 := hSw
                    go_simp
                    try with_reducible rfl
                  try simp only [Act.put, List.setIfInBounds_toArray, List.set_cons_zero, List.set_cons_succ]
                  refine wpAnyH_take (i := 1) (oi := { dst := some 87, op := Op.move (Operand.tmp 14), type := 3, pos := "nlri.go:132", after := #[], guard := none }) (v := ?_) rfl (by kernel_rfl) (by kernel_rfl) (by kernel_rfl) (fun _ _ _ h => h) (Or.inl ⟨by rfl, ?_⟩) hHeld ?_
                  rotate_left
                  · intro w hSw
                    try clear hSw
                    go_simp
                    try with_reducible rfl
                  try simp only [Act.put, List.setIfInBounds_toArray, List.set_cons_zero, List.set_cons_succ]
                  refine wpAnyH_ready (rs := [2]) (by kernel_rfl) (by simp) ?_
                  refine AllReadyH.cons (o := { dst := some 88, op := Op.call { callee := Callee.value (Operand.func 58), args := #[Operand.tmp 87], argTypes := #[3] }, type := 3, pos := "nlri.go:132", after := #[{ on := 1, ground := Ground.data }], guard := none }) rfl (fun K hK => ?_) AllReadyH.nil
                  go_simp
                  refine (HWH.out _).mono ?_
                  rintro e w5 ⟨rfl, hw⟩
                  rw [hw]
                  clear hw
                  go_wp2_with fail
                  refine hK.out _ _ (hHeld) (fun hHeld => ?_)
                  clear hK K
                  try simp only [Act.put, List.setIfInBounds_toArray, List.set_cons_zero, List.set_cons_succ]
                  refine wpAnyH_ready (rs := [3]) (by kernel_rfl) (by simp) ?_
                  refine AllReadyH.cons (o := { dst := some 89, op := Op.call { callee := Callee.value (Operand.func 39), args := #[Operand.tmp 86, Operand.tmp 88], argTypes := #[70, 3] }, type := 75, pos := "nlri.go:132", after := #[{ on := 0, ground := Ground.data }, { on := 2, ground := Ground.data }, { on := 2, ground := Ground.chain }], guard := none }) rfl (fun K hK => ?_) AllReadyH.nil
                  go_simp
                  refine (HTK.out _ HN9d.out.s.d.rd).mono ?_
                  rintro e V10 ⟨rfl, hw⟩
                  have HN10 : Hid (DecN w V10 (w.heap.size + 1) w.heap.size (w.heap.size + 1 + 1) t4 false (.slice A L.length c) L wr.heap.size ⟨f, (z4 : Nat), ⟨#[]⟩, 0, (z1 : Nat), ((z3 : Int) / 16)⟩) := by
                    show DecN _ _ _ _ _ _ _ _ _ _ _
                    rw [hw]
                    exact HN9d.out
                  clear hw
                  go_wp2_with fail
                  refine hK.out _ _ (HN10.out.p9) (fun hHeld => ?_)
                  clear hK K
                  try simp only [Act.put, List.setIfInBounds_toArray, List.set_cons_zero, List.set_cons_succ]
                  refine wpAnyH_take (i := 4) (oi := { dst := some 85, op := Op.move (Operand.tmp 89), type := 75, pos := "nlri.go:132", after := #[{ on := 3, ground := Ground.data }], guard := none }) (v := ?_) rfl (by kernel_rfl) (by kernel_rfl) (by kernel_rfl) (fun _ _ _ h => h) (Or.inl ⟨by rfl, ?_⟩) hHeld ?_
                  rotate_left
                  · intro w hSw
                    try clear hSw
                    go_simp
                    try with_reducible rfl
                  try simp only [Act.put, List.setIfInBounds_toArray, List.set_cons_zero, List.set_cons_succ]
                  refine wpAnyH_take (i := 5) (oi := { dst := some 90, op := Op.extract (Operand.tmp 85) 0, type := 9, pos := "nlri.go:132", after := #[{ on := 4, ground := Ground.data }], guard := none }) (v := ?_) rfl (by kernel_rfl) (by kernel_rfl) (by kernel_rfl) (fun _ _ _ h => h) (Or.inl ⟨by rfl, ?_⟩) hHeld ?_
                  rotate_left
                  · intro w hSw
                    try clear hSw
                    go_simp
                    try with_reducible rfl
                  try simp only [Act.put, List.setIfInBounds_toArray, List.set_cons_zero, List.set_cons_succ]
                  refine wpAnyH_take (i := 6) (oi := { dst := some 91, op := Op.extract (Operand.tmp 85) 1, type := 4, pos := "nlri.go:132", after := #[{ on := 4, ground := Ground.data }, { on := 7, ground := Ground.gcOnly Departure.lateStores }], guard := none }) (v := ?_) rfl (by kernel_rfl) (by kernel_rfl) (by kernel_rfl) (fun _ _ _ h => h) (Or.inl ⟨by rfl, ?_⟩) hHeld ?_
                  rotate_left
                  · intro w hSw
                    try clear hSw
                    go_simp
                    try with_reducible rfl
                  try simp only [Act.put, List.setIfInBounds_toArray, List.set_cons_zero, List.set_cons_succ]
                  refine wpAnyH_take (i := 7) (oi := { dst := some 16, op := Op.assign (Operand.tmp 90), type := 9, pos := "nlri.go:132", after := #[{ on := 5, ground := Ground.data }, { on := 3, ground := Ground.chain }, { on := 0, ground := Ground.phase }, { on := 1, ground := Ground.phase }, { on := 2, ground := Ground.phase }, { on := 3, ground := Ground.phase }, { on := 4, ground := Ground.phase }, { on := 5, ground := Ground.phase }, { on := 6, ground := Ground.textOnly Departure.lateStores }], guard := none }) (v := ?_) rfl (by kernel_rfl) (by kernel_rfl) (by kernel_rfl) (fun _ _ _ h => h) (Or.inl ⟨by rfl, ?_⟩) hHeld ?_
                  rotate_left
                  · intro w hSw
                    try clear hSw
                    go_simp
                    try with_reducible rfl
                  try simp only [Act.put, List.setIfInBounds_toArray, List.set_cons_zero, List.set_cons_succ]
                  refine wpAnyH_take (i := 8) (oi := { dst := some 17, op := Op.assign (Operand.tmp 91), type := 4, pos := "nlri.go:132", after := #[{ on := 6, ground := Ground.data }, { on := 7, ground := Ground.chain }, { on := 0, ground := Ground.phase }, { on := 1, ground := Ground.phase }, { on := 2, ground := Ground.phase }, { on := 3, ground := Ground.phase }, { on := 4, ground := Ground.phase }, { on := 5, ground := Ground.phase }, { on := 6, ground := Ground.phase }, { on := 7, ground := Ground.phase }], guard := none }) (v := ?_) rfl (by kernel_rfl) (by kernel_rfl) (by kernel_rfl) (fun _ _ _ h => h) (Or.inl ⟨by rfl, ?_⟩) hHeld ?_
                  rotate_left
                  · intro w hSw
                    try clear hSw
                    go_simp
                    try with_reducible rfl
                  try simp only [Act.put, List.setIfInBounds_toArray, List.set_cons_zero, List.set_cons_succ]
                  refine wpAnyH_done (by kernel_rfl) ?_ _
                  clear hHeld p9 p10 HN9 HN9d
                  go_wp2_with fail
                  go_ret2
                  exact DecPost.no HNO.out rfl HN10.out.s.bl
end Go.Proofs.Ytocbacpbckejdaa
