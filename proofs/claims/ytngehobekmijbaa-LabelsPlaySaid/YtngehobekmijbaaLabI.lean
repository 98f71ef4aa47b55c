/-
  Labels: the reference's names and keys are the program's. Conditions: sizes.
-/
import Derived.Test.YtngehobekmijbaaLabG
import Derived.Test.YtngehobekmijbaaMayA
import Derived.Laws.RangeString
import Derived.Laws.RangeAny
set_option linter.unusedVariables false
set_option linter.unusedSimpArgs false
namespace Go.Proofs.Ytngehobekmijbaa
open Go.RowKit Go.MapKept

theorem bad_high (x : Nat) (h : 128 ≤ x) : runeBad x = true := by
  have h1 : (decide (x < 97) || decide (122 < x)) = true := by rw [Bool.or_eq_true]; exact Or.inr (decide_eq_true (by omega))
  have h2 : (decide (x < 48) || decide (57 < x)) = true := by rw [Bool.or_eq_true]; exact Or.inr (decide_eq_true (by omega))
  have h3 : (x != 45) = true := by rw [bne_iff_ne]; omega
  simp only [runeBad, h1, h2, h3, Bool.and_self]
theorem idx_spec (s : ByteArray) : ∀ (f pos : Nat), s.size ≤ pos + f → (0 ≤ Lib.idxFuncFrom runeBad true s f pos ↔ ∃ (j : Nat) (hj : j < s.size), pos ≤ j ∧ runeBad (s[j]'hj).toNat = true)
  | 0, pos, h => by
    unfold Lib.idxFuncFrom
    exact ⟨fun h => absurd h (by omega), fun ⟨j, hj, h1, _⟩ => by omega⟩
  | f + 1, pos, h => by
    unfold Lib.idxFuncFrom
    by_cases hp : pos < s.size
    · rw [if_pos hp]
      by_cases ha : (s[pos]'hp).toNat < 128
      · rw [decode_ascii s pos hp ha]
        by_cases hb : runeBad (s[pos]'hp).toNat = true
        · rw [if_pos hb]
          exact ⟨fun _ => ⟨pos, hp, Nat.le_refl _, hb⟩, fun _ => by omega⟩
        · rw [if_neg hb, idx_spec s f (pos + 1) (by omega)]
          constructor
          · rintro ⟨j, hj, h1, h2⟩
            exact ⟨j, hj, by omega, h2⟩
          · rintro ⟨j, hj, h1, h2⟩
            refine ⟨j, hj, ?_, h2⟩
            rcases Nat.lt_or_ge pos j with hlt | hge
            · omega
            · have : j = pos := by omega
              subst this
              exact absurd h2 hb
      · have hd := decode_high s pos hp (by omega)
        rw [if_pos (bad_high _ hd.1)]
        exact ⟨fun _ => ⟨pos, hp, Nat.le_refl _, bad_high _ (by omega)⟩, fun _ => by omega⟩
    · rw [if_neg hp]
      exact ⟨fun h => absurd h (by omega), fun ⟨j, hj, h1, _⟩ => by omega⟩
theorem idx_bytes (s : ByteArray) : 0 ≤ Lib.idxFunc runeBad true s ↔ ∃ (j : Nat) (hj : j < s.size), runeBad (s[j]'hj).toNat = true := by
  unfold Lib.idxFunc
  rw [idx_spec s s.size 0 (by omega)]
  exact ⟨fun ⟨j, hj, _, h⟩ => ⟨j, hj, h⟩, fun ⟨j, hj, h⟩ => ⟨j, hj, Nat.zero_le _, h⟩⟩

set_option maxHeartbeats 2000000 in
theorem rname_any (s : ByteArray) (hs : 0 < s.size) (h1 : s.size ≤ 9223372036854775807) (w : World) : Calls Try.prog 27 #[.string s] w fun e w' => e = .returned (.bool (nameB s hs)) ∧ w' = w := by
  have h0 := s[0].toNat_lt
  by_cases a1 : s.size ≤ 16
  · by_cases a2 : 97 ≤ s[0].toNat
    · by_cases a3 : s[0].toNat ≤ 122
      · have hr : nameB s hs = !decide (0 ≤ Lib.idxFunc runeBad true s) := by simp [nameB, a1, a2, a3]
        have HGOOD : Hid ((∀ (j : Nat) (hj : j < s.size), runeBad (s[j]'hj).toNat = false) → nameB s hs = true) := fun h => by
          rw [hr, decide_eq_false (fun hi => by obtain ⟨j, hj, e⟩ := (idx_bytes s).1 hi; rw [h j hj] at e; cases e)]
          rfl
        have HBAD : Hid (∀ (j : Nat) (hj : j < s.size), runeBad (s[j]'hj).toNat = true → nameB s hs = false) := fun j hj e => by
          rw [hr, decide_eq_true ((idx_bytes s).2 ⟨j, hj, e⟩)]
          rfl
        clear hr
        go_enter Try.func27, Try.ntmps27
        go_wp2_with fail
        go_loop [3] (fun i => ∃ k : Nat, k ≤ s.size ∧ i = .int .i64 k ∧ Hid (∀ (j : Nat) (hj : j < s.size), j < k → runeBad (s[j]'hj).toNat = false)) (fun i => s.size + 1 - (intOf i).toNat)
        case atStart => exact ⟨0, Nat.zero_le _, rfl, fun j hj h => absurd h (by omega)⟩
        case round =>
          obtain ⟨k, hk, rfl, HK⟩ := hrel
          by_cases hlt : k < s.size
          · have HB := Lib.hid (HBAD.out k hlt)
            have hx := (s[k]'hlt).toNat_lt
            have HN : Hid (runeBad (s[k]'hlt).toNat = false → ∀ (j : Nat) (hj : j < s.size), j < k + 1 → runeBad (s[j]'hj).toNat = false) := fun h j hj hjk => by
              by_cases e : j = k
              · subst e; exact h
              · exact HK.out j hj (by omega)
            clear HK
            generalize hc : (s[k]'hlt).toNat = c at HB HN hx
            by_cases b1 : 97 ≤ c ∧ c ≤ 122
            · obtain ⟨b1, b2⟩ := b1
              have HR := Lib.hid (HN.out (by simp [runeBad]; omega))
              clear HN HB
              go_wp2_with fail
              exact ⟨⟨k + 1, by omega, by go_num, HR.out⟩, by simp [intOf]; omega⟩
            · by_cases b3 : 48 ≤ c ∧ c ≤ 57
              · obtain ⟨b3, b4⟩ := b3
                have b5 : ¬ 97 ≤ c := by omega
                have HR := Lib.hid (HN.out (by simp [runeBad]; omega))
                clear HN HB b1
                go_wp2_with fail
                all_goals exact ⟨⟨k + 1, by omega, by go_num, HR.out⟩, by simp [intOf]; omega⟩
              · by_cases b6 : c = 45
                · subst b6
                  have HR := Lib.hid (HN.out (by decide))
                  clear HN HB b1 b3
                  go_wp2_with fail
                  all_goals exact ⟨⟨k + 1, by omega, by go_num, HR.out⟩, by simp [intOf]; omega⟩
                · have HR := Lib.hid (HB.out (by simp [runeBad]; omega))
                  have e1 : ((c : Int) == 45) = false := by rw [beq_eq_false_iff_ne]; omega
                  clear HN HB
                  by_cases d1 : 97 ≤ c
                  · have d2 : ¬ c ≤ 122 := fun h => b1 ⟨d1, h⟩
                    have d3 : 48 ≤ c := by omega
                    have d4 : ¬ c ≤ 57 := by omega
                    have e2 : decide ((c : Int) ≤ 122) = false := decide_eq_false (by omega)
                    have e3 : decide ((c : Int) ≤ 57) = false := decide_eq_false (by omega)
                    clear b1 b3 b6
                    go_wp2_with fail
                    go_ret
                    exact ⟨ret_bool HR.out.symm, rfl⟩
                  · by_cases d3 : 48 ≤ c
                    · have d4 : ¬ c ≤ 57 := fun h => b3 ⟨d3, h⟩
                      have e3 : decide ((c : Int) ≤ 57) = false := decide_eq_false (by omega)
                      clear b1 b3 b6
                      go_wp2_with fail
                      go_ret
                      exact ⟨ret_bool HR.out.symm, rfl⟩
                    · clear b1 b3 b6
                      go_wp2_with fail
                      go_ret
                      exact ⟨ret_bool HR.out.symm, rfl⟩
          · obtain rfl : k = s.size := by omega
            have HR := Lib.hid (HGOOD.out (fun j hj => HK.out j hj hj))
            go_wp2_with fail
            go_ret
            exact ⟨ret_bool HR.out.symm, rfl⟩
      · have hr : Hid (nameB s hs = false) := by show _ = _; simp [nameB, a3]
        go_enter Try.func27, Try.ntmps27
        go_wp2_with fail
        go_ret
        exact ⟨ret_bool hr.out.symm, rfl⟩
    · have hr : Hid (nameB s hs = false) := by show _ = _; simp [nameB, a2]
      go_enter Try.func27, Try.ntmps27
      go_wp2_with fail
      go_ret
      exact ⟨ret_bool hr.out.symm, rfl⟩
  · have hr : Hid (nameB s hs = false) := by show _ = _; simp [nameB, a1]
    go_enter Try.func27, Try.ntmps27
    go_wp2_with fail
    go_ret
    exact ⟨ret_bool hr.out.symm, rfl⟩

end Go.Proofs.Ytngehobekmijbaa
