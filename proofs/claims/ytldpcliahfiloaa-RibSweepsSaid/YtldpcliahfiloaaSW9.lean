/-
  Several texts in one.
-/
import Derived.Test.YtldpcliahfiloaaSW8
set_option linter.unusedVariables false
set_option linter.unusedSimpArgs false
namespace Go.Proofs.Ytldpcliahfiloaa
open Go.RowKit

theorem and_mask (x : UInt8) (s : Nat) (h : s < 8) : bits .and .u8 (x.toNat : Int) (255 * 2 ^ s % 256) = ((UInt8.ofNat (x.toNat / 2 ^ s * 2 ^ s)).toNat : Int) := by
  have key : ∀ (y : Fin 256) (t : Fin 8), bits .and .u8 (y.val : Int) (255 * 2 ^ t.val % 256) = ((UInt8.ofNat (y.val / 2 ^ t.val * 2 ^ t.val)).toNat : Int) := by decide +kernel
  exact key ⟨x.toNat, x.toNat_lt⟩ ⟨s, h⟩

set_option maxHeartbeats 1000000 in
theorem masked_any (b : ByteArray) (N : Int) (w : World) (hb : b.size ≤ 1000000) (h0 : -1000000 ≤ N) (h1 : N ≤ 100000000) :
    Calls Try.prog 57 #[.string b, .int .i64 N] w fun e w' => e = .returned (.string (maskB b N)) ∧ Below w.heap.size w w' := by
  have hconv := run_bytes_of_string (P := Try.prog) w 9 88 5 b Try.underlying9 Try.underlying88 Try.underlying5
  have hown := OwnM.of_bytes w 5 b w.heap.size (Nat.le_refl _) (by unfold maxLen; omega)
  generalize hW : w.drew.alloc (.cells (bytesRow b (grownCap w b.size 0 5)) 5 ((bytesRow b (grownCap w b.size 0 5)).size, (bytesRow b (grownCap w b.size 0 5)).size + 1)) = W at hconv hown
  have HB : Hid (Below w.heap.size w W) := by
    show Below _ _ _
    rw [← hW]
    go_grown
  have HO := Lib.hid hown
  clear hown hW
  have hlen : b.data.toList.length = b.size := by rw [Array.length_toList]; rfl
  go_enter Try.func57, Try.ntmps57
  go_wp2_with fail
  go_loopw [12] (fun i wr => ∃ k : Nat, k ≤ b.size ∧ i = .int .i64 k ∧ OwnM wr w.heap.size 5 1 (.slice (some ⟨w.heap.size, 0, none⟩) b.size (grownCap w b.size 0 5)) b.size (byteVals (maskK b.data.toList N k)) ∧ Below w.heap.size w wr) (fun i _ => b.size + 1 - (intOf i).toNat)
  case atStart => exact ⟨0, Nat.zero_le _, rfl, by rw [maskK_zero]; exact HO.out, HB.out⟩
  case round =>
    obtain ⟨k, hk, rfl, ho, hbw⟩ := hrel
    have HO2 := Lib.hid ho
    have HB2 := Lib.hid hbw
    clear ho hbw HO HB hconv
    by_cases hlt : k < b.size
    · have hat := maskK_at b.data.toList N k (by omega)
      have HS := Lib.hid (maskK_succ b.data.toList N k (by omega))
      obtain ⟨hc, hf⟩ := HO2.out.at_ hlt (byteVals_at _ _ _ hat)
      generalize hx : b.data.toList[k] = x at hat HS hc
      have HAT := Lib.hid hat
      clear hat hx
      have hx1 := x.toNat_lt
      by_cases l0 : N - 8 * k ≤ 0
      · have HM : Hid (mval x (N - 8 * k) = 0) := by show _ = _; unfold mval; rw [if_pos l0]
        go_wp2_with fail
        refine ⟨⟨k + 1, by omega, by go_num, ?_, HB2.out.setCell (p := ⟨w.heap.size, k, none⟩) (Nat.le_refl _) _⟩, by simp [intOf]; omega⟩
        rw [HS.out, HM.out, ← byteVals_set]
        exact HO2.out.store hlt _
      · by_cases l8 : N - 8 * k < 8
        · have HM : Hid (mval x (N - 8 * k) = UInt8.ofNat (x.toNat / 2 ^ (8 - (N - 8 * k)).toNat * 2 ^ (8 - (N - 8 * k)).toNat)) := by show _ = _; unfold mval; rw [if_neg l0, if_pos l8]
          have q1 : ¬ (8 - (N - 8 * k) < 0) := by omega
          go_wp2_with fail
          go_region
          all_goals go_wp2_with fail
          refine ⟨⟨k + 1, by omega, by go_num, ?_, below_drewN (HB2.out.setCell (p := ⟨w.heap.size, k, none⟩) (Nat.le_refl _) _) 1⟩, by simp [intOf]; omega⟩
          rw [HS.out, HM.out, ← byteVals_set, and_mask x _ (by omega)]
          exact (HO2.out.store hlt _).drew
        · have HM : Hid (mval x (N - 8 * k) = x) := by show _ = _; unfold mval; rw [if_neg l0, if_neg l8]
          go_wp2_with fail
          refine ⟨⟨k + 1, by omega, by go_num, ?_, HB2.out⟩, by simp [intOf]; omega⟩
          have e : (maskK b.data.toList N k).set k x = maskK b.data.toList N k := by
            apply List.ext_getElem?
            intro i
            rw [List.getElem?_set]
            split
            · rename_i h
              subst h
              rw [HAT.out]
              split
              · rfl
              · rename_i h
                exact absurd (by rw [maskK_length]; omega) h
            · rfl
          rw [HS.out, HM.out, e]
          exact HO2.out
    · obtain rfl : b.size = k := by omega
      have hstr := run_string_m (P := Try.prog) wr 88 9 5 w.heap.size b.size _ (maskK b.data.toList N b.size) Try.underlying88 Try.underlying5 Try.underlying9 HO2.out
      go_wp2_with fail
      go_ret
      exact ⟨rfl, HB2.out⟩

end Go.Proofs.Ytldpcliahfiloaa
