/-
  Labels: contracts of none, may, New, Of, Key, Left. Conditions: sizes.
-/
import Derived.Test.YtngehobekmijbaaLabA
set_option linter.unusedVariables false
set_option linter.unusedSimpArgs false
namespace Go.Proofs.Ytngehobekmijbaa
open Go.RowKit Go.MapKept
open Go.Maps (Keyed)

/-- a letter that no name has -/
def runeBad (x : Nat) : Bool := (decide (x < 97) || decide (122 < x)) && (decide (x < 48) || decide (57 < x)) && (x != 45)
set_option maxHeartbeats 1000000 in
theorem bad_any (x : Nat) (hx : x ≤ 1114111) (w : World) : Calls Try.prog 25 #[.int .i32 x] w fun e w' => e = .returned (.bool (runeBad x)) ∧ w' = w := by
  by_cases a1 : x < 97
  · by_cases b1 : x < 48
    · by_cases c1 : x = 45
      · subst c1
        go_enter Try.func25, Try.ntmps25
        go_wp2_with fail
        go_ret
        exact ⟨rfl, rfl⟩
      · have e1 : ((x : Int) == 45) = false := by rw [beq_eq_false_iff_ne]; omega
        have e2 : ((x : Int) != 45) = true := by rw [bne, e1]; rfl
        have hr : Hid (runeBad x = true) := by show _ = _; simp [runeBad, a1, b1, c1]
        clear c1
        go_enter Try.func25, Try.ntmps25
        go_wp2_with fail
        go_ret
        exact ⟨ret_bool (by first | exact hr.out.symm | (rw [hr.out]; simp; done) | (rw [hr.out]; simp; omega)), rfl⟩
    · by_cases d1 : 57 < x
      · have e1 : ((x : Int) == 45) = false := by rw [beq_eq_false_iff_ne]; omega
        have e2 : ((x : Int) != 45) = true := by rw [bne, e1]; rfl
        have hr : Hid (runeBad x = true) := by show _ = _; simp [runeBad, a1, d1]; omega
        go_enter Try.func25, Try.ntmps25
        go_wp2_with fail
        go_ret
        exact ⟨ret_bool (by first | exact hr.out.symm | (rw [hr.out]; simp; done) | (rw [hr.out]; simp; omega)), rfl⟩
      · have hr : Hid (runeBad x = false) := by show _ = _; simp [runeBad, b1, d1]
        go_enter Try.func25, Try.ntmps25
        go_wp2_with fail
        go_ret
        exact ⟨ret_bool (by first | exact hr.out.symm | (rw [hr.out]; simp; done) | (rw [hr.out]; simp; omega)), rfl⟩
  · by_cases a2 : 122 < x
    · have b1 : ¬ x < 48 := by omega
      have d1 : 57 < x := by omega
      have e1 : ((x : Int) == 45) = false := by rw [beq_eq_false_iff_ne]; omega
      have e2 : ((x : Int) != 45) = true := by rw [bne, e1]; rfl
      have hr : Hid (runeBad x = true) := by show _ = _; simp [runeBad, a2, d1]; omega
      go_enter Try.func25, Try.ntmps25
      go_wp2_with fail
      go_ret
      exact ⟨ret_bool (by first | exact hr.out.symm | (rw [hr.out]; simp; done) | (rw [hr.out]; simp; omega)), rfl⟩
    · have hr : Hid (runeBad x = false) := by show _ = _; simp [runeBad, a1, a2]
      go_enter Try.func25, Try.ntmps25
      go_wp2_with fail
      go_ret
      exact ⟨ret_bool (by first | exact hr.out.symm | (rw [hr.out]; simp; done) | (rw [hr.out]; simp; omega)), rfl⟩

/-- is it a name? (of one byte or more) -/
def nameB (s : ByteArray) (h : 0 < s.size) : Bool := decide (s.size ≤ 16) && decide (97 ≤ s[0].toNat) && decide (s[0].toNat ≤ 122) && !decide (0 ≤ Lib.idxFunc runeBad true s)
theorem pays (w : World) : PredAtRunes Try.prog 25 #[] runeBad w := fun W x hx hb =>
  (bad_any x hx W).mono fun e w' ⟨he, hw⟩ => ⟨he, 0, hw⟩
theorem contains_any (s : ByteArray) (w : World) : Calls Try.prog 24 #[.string s, .func (.func 25) #[] #[]] w fun e w' => e = .returned (.bool (decide (0 ≤ Lib.idxFunc runeBad true s))) ∧ Below w.heap.size w w' :=
  Try.strings_ContainsFunc_runes 25 #[] (enters_of Try.func25 (by kernel_rfl) rfl) runeBad s w (pays w)

set_option maxHeartbeats 1000000 in
theorem name_any (s : ByteArray) (hs : 0 < s.size) (h1 : s.size ≤ 9223372036854775807) (w : World) : Calls Try.prog 23 #[.string s] w fun e w' => e = .returned (.bool (nameB s hs)) ∧ Below w.heap.size w w' := by
  have h0 := s[0].toNat_lt
  by_cases a1 : s.size ≤ 16
  · by_cases a2 : 97 ≤ s[0].toNat
    · by_cases a3 : s[0].toNat ≤ 122
      · have HC := Lib.hid (fun w => contains_any s w)
        have hr : Hid (nameB s hs = !decide (0 ≤ Lib.idxFunc runeBad true s)) := by show _ = _; simp [nameB, a1, a2, a3]
        generalize decide (0 ≤ Lib.idxFunc runeBad true s) = X at HC hr
        cases X
        all_goals
          go_enter Try.func23, Try.ntmps23
          go_wp2_with (refine (HC.out _).mono ?_; rintro e w1 ⟨rfl, hb⟩)
          go_ret
          exact ⟨ret_bool hr.out.symm, hb⟩
      · have hr : Hid (nameB s hs = false) := by show _ = _; simp [nameB, a3]
        go_enter Try.func23, Try.ntmps23
        go_wp2_with fail
        go_ret
        exact ⟨ret_bool hr.out.symm, Below.refl _ _⟩
    · have hr : Hid (nameB s hs = false) := by show _ = _; simp [nameB, a2]
      go_enter Try.func23, Try.ntmps23
      go_wp2_with fail
      go_ret
      exact ⟨ret_bool hr.out.symm, Below.refl _ _⟩
  · have hr : Hid (nameB s hs = false) := by show _ = _; simp [nameB, a1]
    go_enter Try.func23, Try.ntmps23
    go_wp2_with fail
    go_ret
    exact ⟨ret_bool hr.out.symm, Below.refl _ _⟩

/-- may a key be? -/
def kmay (k : LK) : Bool := (if h : 0 < k.vrf.size then nameB k.vrf h else true) && decide (PrefOk k.fam k.rd k.addr k.len)
set_option maxHeartbeats 1000000 in
theorem may_any (k : LK) (hk : k.Ok) (w : World) : Calls Try.prog 21 #[k.v] w fun e w' => e = .returned (.bool (kmay k)) ∧ Below w.heap.size w w' := by
  have h1 := hk.vrf
  have h2 := hk.addr
  have HCK := Lib.hid (fun w => check_any k.fam k.rd k.addr k.len w h2)
  have hv : k.v = .agg #[.string k.vrf, .int .i64 k.fam, .int .u64 k.rd, .string k.addr, .int .i64 k.len] := rfl
  rw [hv]
  clear hv
  have HW0 : Hid (Below w.heap.size w (w.alloc (.cells #[.string k.vrf, .int .i64 k.fam, .int .u64 k.rd, .string k.addr, .int .i64 k.len] 34))) := by
    show Below _ _ _
    go_grown
  by_cases hz : 0 < k.vrf.size
  · have HN := Lib.hid (fun w => name_any k.vrf hz h1 w)
    have e1 : (k.vrf.toList == []) = false := by
      rw [beq_eq_false_iff_ne, ByteArray.toList_eq]
      intro e
      have := congrArg List.length e
      rw [Array.length_toList] at this
      have h3 : k.vrf.data.size = k.vrf.size := rfl
      simp only [List.length_nil] at this
      omega
    have e1' : k.vrf.toList.isEmpty = false := by rw [List.isEmpty_eq_false_iff]; rw [beq_eq_false_iff_ne] at e1; exact e1
    have hr : Hid (kmay k = (nameB k.vrf hz && decide (PrefOk k.fam k.rd k.addr k.len))) := by show _ = _; simp [kmay, hz]
    generalize nameB k.vrf hz = X at HN hr
    cases X
    · clear HCK
      go_enter Try.func21, Try.ntmps21
      go_wp2_with (refine (HN.out _).mono ?_; rintro e w1 ⟨rfl, hb⟩)
      go_ret
      exact ⟨ret_bool hr.out.symm, HW0.out.trans (hb.mono (by simp))⟩
    · by_cases hp : PrefOk k.fam k.rd k.addr k.len
      · have hr2 : Hid (kmay k = true) := by show _ = _; rw [hr.out]; simp [hp]
        rw [show prefC k.fam k.rd k.addr k.len = 0 from if_pos hp] at HCK
        clear hr hp
        go_enter Try.func21, Try.ntmps21
        go_wp2_with fail
        refine (HN.out _).mono ?_
        rintro e w1 ⟨rfl, hb⟩
        obtain ⟨hc, hf⟩ := bcell hb
        have HW1 := Lib.hid (HW0.out.trans (hb.mono (by simp)))
        clear hb
        go_wp2_with fail
        refine (HCK.out _).mono ?_
        rintro e w2 ⟨rfl, hb⟩
        have HW2 := Lib.hid (HW1.out.trans (hb.mono HW1.out.size))
        clear hb
        go_wp2_with fail
        go_ret
        exact ⟨ret_bool hr2.out.symm, HW2.out⟩
      · have hr2 : Hid (kmay k = false) := by show _ = _; rw [hr.out]; simp [hp]
        rw [show prefC k.fam k.rd k.addr k.len = 2 from if_neg hp] at HCK
        clear hr hp
        go_enter Try.func21, Try.ntmps21
        go_wp2_with fail
        refine (HN.out _).mono ?_
        rintro e w1 ⟨rfl, hb⟩
        obtain ⟨hc, hf⟩ := bcell hb
        have HW1 := Lib.hid (HW0.out.trans (hb.mono (by simp)))
        clear hb
        go_wp2_with fail
        refine (HCK.out _).mono ?_
        rintro e w2 ⟨rfl, hb⟩
        have HW2 := Lib.hid (HW1.out.trans (hb.mono HW1.out.size))
        clear hb
        go_wp2_with fail
        go_ret
        exact ⟨ret_bool hr2.out.symm, HW2.out⟩
  · have e1 : k.vrf.toList = [] := by
      rw [ByteArray.toList_eq]
      apply List.eq_nil_of_length_eq_zero
      rw [Array.length_toList]
      have h3 : k.vrf.data.size = k.vrf.size := rfl
      omega
    by_cases hp : PrefOk k.fam k.rd k.addr k.len
    · have hr2 : Hid (kmay k = true) := by show _ = _; simp [kmay, hz, hp]
      rw [show prefC k.fam k.rd k.addr k.len = 0 from if_pos hp] at HCK
      clear hp
      go_enter Try.func21, Try.ntmps21
      go_wp2_with fail
      refine (HCK.out _).mono ?_
      rintro e w2 ⟨rfl, hb⟩
      have HW2 := Lib.hid (HW0.out.trans (hb.mono HW0.out.size))
      clear hb
      go_wp2_with fail
      go_ret
      exact ⟨ret_bool hr2.out.symm, HW2.out⟩
    · have hr2 : Hid (kmay k = false) := by show _ = _; simp [kmay, hz, hp]
      rw [show prefC k.fam k.rd k.addr k.len = 2 from if_neg hp] at HCK
      clear hp
      go_enter Try.func21, Try.ntmps21
      go_wp2_with fail
      refine (HCK.out _).mono ?_
      rintro e w2 ⟨rfl, hb⟩
      have HW2 := Lib.hid (HW0.out.trans (hb.mono HW0.out.size))
      clear hb
      go_wp2_with fail
      go_ret
      exact ⟨ret_bool hr2.out.symm, HW2.out⟩

end Go.Proofs.Ytngehobekmijbaa
