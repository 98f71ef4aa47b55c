/-
  Several texts in one.
-/
import Derived.Test.YtojiieghjhjoaaaGreatMY26
import Derived.Test.YtojiieghjhjoaaaGreatMY28
set_option linter.unusedVariables false
set_option linter.unusedSimpArgs false
namespace Go.Proofs.YtojiieghjhjoaaaGreat
open Go.RowKit

set_option maxRecDepth 100000 in
set_option maxHeartbeats 4000000 in
theorem rmay_any (fam rd : Int) (addr : ByteArray) (len : Int) (w : World) (ha : addr.size ≤ 9223372036854775807) :
    Calls Tryz.prog 124 #[.agg #[.int .i64 fam, .int .u64 rd, .string addr, .int .i64 len]] w fun e w' => e = .returned (.bool (decide (PrefOk fam rd addr len))) ∧ Below w.heap.size w w' := by
  have hin := famSize_in fam
  have bad : ¬ PrefOk fam rd addr len → decide (PrefOk fam rd addr len) = false := fun h => decide_eq_false h
  have HPS := Lib.hid (fun w => rsize_any fam w)
  by_cases c1 : famSize fam = 0
  · have hr := Lib.hid (bad (fun h => h.1 c1))
    clear bad
    rw [c1] at HPS
    clear c1 hin
    go_enter Tryz.func124, Tryz.ntmps124
    go_wp2_with fail
    refine (HPS.out _).mono ?_
    rintro e w1 ⟨rfl, rfl⟩
    go_wp2_with fail
    go_ret
    exact ⟨ret_bool hr.out.symm, by go_grown⟩
  have hfive := famSize_five c1
  have HAP := Lib.hid (fun w => rap_any fam w hfive.1 hfive.2)
  have e0 : (famSize fam == 0) = false := by rw [beq_eq_false_iff_ne]; exact c1
  by_cases c2 : (addr.size : Int) = famSize fam
  · have e2 : ((addr.size : Int) == famSize fam) = true := by rw [beq_iff_eq]; exact c2
    have e2' : ((addr.size : Int) != famSize fam) = false := by rw [bne, e2]; rfl
    by_cases c3 : len < 0
    · have hr := Lib.hid (bad (fun h => absurd h.2.2.1 (by omega)))
      clear bad c2
      generalize famSize fam = S at HPS e0 e2 e2' ⊢
      go_enter Tryz.func124, Tryz.ntmps124
      go_wp2_with fail
      refine (HPS.out _).mono ?_
      rintro e w1 ⟨rfl, rfl⟩
      go_wp2_with fail
      go_ret
      exact ⟨ret_bool hr.out.symm, by go_grown⟩
    by_cases c4 : 8 * famSize fam < len
    · have hr := Lib.hid (bad (fun h => absurd h.2.2.2.1 (by omega)))
      clear bad c2
      generalize famSize fam = S at *
      go_enter Tryz.func124, Tryz.ntmps124
      go_wp2_with fail
      refine (HPS.out _).mono ?_
      rintro e w1 ⟨rfl, rfl⟩
      go_wp2_with fail
      go_ret
      exact ⟨ret_bool hr.out.symm, by go_grown⟩
    by_cases c5 : rd = 0
    · have e5 : (rd == 0) = true := by rw [c5]; rfl
      have e5' : (rd != 0) = false := by rw [bne, e5]; rfl
      have hok : (∀ j : Nat, len ≤ j → j < 8 * addr.size → bitV addr j = 0) → decide (PrefOk fam rd addr len) = true := fun h => decide_eq_true ⟨c1, c2, by omega, by omega, Or.inl c5, (maskB_bits addr len).2 h⟩
      clear c1 c5
      have hno : ∀ j : Nat, len ≤ j → j < 8 * addr.size → bitV addr j ≠ 0 → decide (PrefOk fam rd addr len) = false := fun j h1 h2 h3 => bad (fun h => h3 ((maskB_bits addr len).1 h.2.2.2.2.2 j h1 h2))
      have HNO := Lib.hid hno
      have HOK := Lib.hid hok
      have hs0 : addr.size ≤ 1000000 := by omega
      have hbw : Hid (Below w.heap.size w (w.alloc (.cells #[.int .i64 fam, .int .u64 rd, .string addr, .int .i64 len] 27))) := by
        show Below _ _ _
        go_grown
      clear bad hno hok
      generalize famSize fam = S at *
      have d3 : ¬ len < 0 := c3
      go_enter Tryz.func124, Tryz.ntmps124
      go_wp2_with fail
      refine (HPS.out _).mono ?_
      rintro e w1 ⟨rfl, rfl⟩
      go_wp2_with fail
      go_loop [4] (fun i => ∃ k : Nat, len ≤ k ∧ (k : Int) ≤ 8 * S ∧ i = .int .i64 k ∧ Hid (∀ j : Nat, len ≤ j → j < k → bitV addr j = 0)) (fun i => (8 * S + 1 - intOf i).toNat)
      case atStart => exact ⟨len.toNat, by omega, by omega, by rw [show ((len.toNat : Nat) : Int) = len by omega], fun j h1 h2 => absurd h1 (by omega)⟩
      case round =>
        obtain ⟨k, hk1, hk2, rfl, HZ⟩ := hrel
        by_cases hlt : (k : Int) < 8 * S
        · have HB := Lib.hid (fun w => bit_any addr k w (by omega) hs0)
          by_cases hz : bitV addr k = 0
          · have HZ2 : Hid (∀ j : Nat, len ≤ j → j < k + 1 → bitV addr j = 0) := fun j h1 h2 => by
              by_cases hj : j = k
              · rw [hj]; exact hz
              · exact HZ.out j h1 (by omega)
            rw [hz] at HB
            clear hz HZ
            go_wp2_with fail
            refine (HB.out _).mono ?_
            rintro e w1 ⟨rfl, rfl⟩
            go_wp2_with fail
            exact ⟨⟨k + 1, by omega, by omega, by go_num, HZ2⟩, by simp [intOf]; omega⟩
          · have hr := Lib.hid (HNO.out k hk1 (by omega) hz)
            have z1 : (((bitV addr k : Nat) : Int) == 0) = false := by rw [beq_eq_false_iff_ne]; omega
            have z2 : (((bitV addr k : Nat) : Int) != 0) = true := by rw [bne, z1]; rfl
            clear hz HZ
            generalize bitV addr k = z at HB z1 z2
            go_wp2_with fail
            refine (HB.out _).mono ?_
            rintro e w1 ⟨rfl, rfl⟩
            go_wp2_with fail
            go_ret
            exact ⟨ret_bool hr.out.symm, hbw.out⟩
        · have hr := Lib.hid (HOK.out (fun j h1 h2 => HZ.out j h1 (by omega)))
          go_wp2_with fail
          go_ret
          exact ⟨ret_bool hr.out.symm, hbw.out⟩
    · have e5 : (rd == 0) = false := by rw [beq_eq_false_iff_ne]; exact c5
      have e5' : (rd != 0) = true := by rw [bne, e5]; rfl
      by_cases c6 : 4 ≤ fam
      · have hok : (∀ j : Nat, len ≤ j → j < 8 * addr.size → bitV addr j = 0) → decide (PrefOk fam rd addr len) = true := fun h => decide_eq_true ⟨c1, c2, by omega, by omega, Or.inr (by omega), (maskB_bits addr len).2 h⟩
        rw [show apB fam = true from decide_eq_true c6] at HAP
        clear c1 c6
        have hno : ∀ j : Nat, len ≤ j → j < 8 * addr.size → bitV addr j ≠ 0 → decide (PrefOk fam rd addr len) = false := fun j h1 h2 h3 => bad (fun h => h3 ((maskB_bits addr len).1 h.2.2.2.2.2 j h1 h2))
        have HNO := Lib.hid hno
        have HOK := Lib.hid hok
        have hs0 : addr.size ≤ 1000000 := by omega
        have hbw : Hid (Below w.heap.size w (w.alloc (.cells #[.int .i64 fam, .int .u64 rd, .string addr, .int .i64 len] 27))) := by
          show Below _ _ _
          go_grown
        clear bad hno hok
        generalize famSize fam = S at *
        have d3 : ¬ len < 0 := c3
        go_enter Tryz.func124, Tryz.ntmps124
        go_wp2_with fail
        refine (HPS.out _).mono ?_
        rintro e w1 ⟨rfl, rfl⟩
        go_wp2_with fail
        refine (HAP.out _).mono ?_
        rintro e w1 ⟨rfl, rfl⟩
        go_wp2_with fail
        go_loop [4] (fun i => ∃ k : Nat, len ≤ k ∧ (k : Int) ≤ 8 * S ∧ i = .int .i64 k ∧ Hid (∀ j : Nat, len ≤ j → j < k → bitV addr j = 0)) (fun i => (8 * S + 1 - intOf i).toNat)
        case atStart => exact ⟨len.toNat, by omega, by omega, by rw [show ((len.toNat : Nat) : Int) = len by omega], fun j h1 h2 => absurd h1 (by omega)⟩
        case round =>
          obtain ⟨k, hk1, hk2, rfl, HZ⟩ := hrel
          by_cases hlt : (k : Int) < 8 * S
          · have HB := Lib.hid (fun w => bit_any addr k w (by omega) hs0)
            by_cases hz : bitV addr k = 0
            · have HZ2 : Hid (∀ j : Nat, len ≤ j → j < k + 1 → bitV addr j = 0) := fun j h1 h2 => by
                by_cases hj : j = k
                · rw [hj]; exact hz
                · exact HZ.out j h1 (by omega)
              rw [hz] at HB
              clear hz HZ
              go_wp2_with fail
              refine (HB.out _).mono ?_
              rintro e w1 ⟨rfl, rfl⟩
              go_wp2_with fail
              exact ⟨⟨k + 1, by omega, by omega, by go_num, HZ2⟩, by simp [intOf]; omega⟩
            · have hr := Lib.hid (HNO.out k hk1 (by omega) hz)
              have z1 : (((bitV addr k : Nat) : Int) == 0) = false := by rw [beq_eq_false_iff_ne]; omega
              have z2 : (((bitV addr k : Nat) : Int) != 0) = true := by rw [bne, z1]; rfl
              clear hz HZ
              generalize bitV addr k = z at HB z1 z2
              go_wp2_with fail
              refine (HB.out _).mono ?_
              rintro e w1 ⟨rfl, rfl⟩
              go_wp2_with fail
              go_ret
              exact ⟨ret_bool hr.out.symm, hbw.out⟩
          · have hr := Lib.hid (HOK.out (fun j h1 h2 => HZ.out j h1 (by omega)))
            go_wp2_with fail
            go_ret
            exact ⟨ret_bool hr.out.symm, hbw.out⟩
      · have hr := Lib.hid (bad (fun h => h.2.2.2.2.1.elim c5 (by omega)))
        rw [show apB fam = false from decide_eq_false c6] at HAP
        clear bad c5 c6
        generalize famSize fam = S at *
        go_enter Tryz.func124, Tryz.ntmps124
        go_wp2_with fail
        refine (HPS.out _).mono ?_
        rintro e w1 ⟨rfl, rfl⟩
        go_wp2_with fail
        refine (HAP.out _).mono ?_
        rintro e w1 ⟨rfl, rfl⟩
        go_wp2_with fail
        go_ret
        exact ⟨ret_bool hr.out.symm, by go_grown⟩
  · have hr := Lib.hid (bad (fun h => c2 h.2.1))
    have e2 : ((addr.size : Int) == famSize fam) = false := by rw [beq_eq_false_iff_ne]; exact c2
    have e2' : ((addr.size : Int) != famSize fam) = true := by rw [bne, e2]; rfl
    clear bad c2
    generalize famSize fam = S at HPS e0 e2 e2' ⊢
    go_enter Tryz.func124, Tryz.ntmps124
    go_wp2_with fail
    refine (HPS.out _).mono ?_
    rintro e w1 ⟨rfl, rfl⟩
    go_wp2_with fail
    go_ret
    exact ⟨ret_bool hr.out.symm, by go_grown⟩

end Go.Proofs.YtojiieghjhjoaaaGreat
