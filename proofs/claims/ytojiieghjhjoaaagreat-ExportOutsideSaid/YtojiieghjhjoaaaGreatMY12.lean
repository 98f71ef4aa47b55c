/-
  Several texts in one.
-/
import Derived.Test.YtojiieghjhjoaaaGreatMY10
set_option linter.unusedVariables false
set_option linter.unusedSimpArgs false
namespace Go.Proofs.YtojiieghjhjoaaaGreat
open Go.RowKit Go.MapKept Go.Shelf
open Go.Lib hiding intOf

set_option maxRecDepth 100000 in
set_option maxHeartbeats 4000000 in
theorem rrise_any (A : Option Addr) (cap : Nat) (l : List Nat) (w : World) (h : Rd w A 1 (nums .u32 l)) (hl : l.length ≤ cap) (hc : cap ≤ 9223372036854775807) :
    Calls Tryz.prog 97 #[.slice A l.length cap] w fun e w' => e = .returned (.bool (riseB ltN l)) ∧ Below w.heap.size w w' := by
  have HR := Lib.hid h
  clear h
  generalize hres : riseB ltN l = res
  have HRES := Lib.hid hres
  clear hres
  go_enter Tryz.func97, Tryz.ntmps97
  go_wp2_with fail
  go_loopw [3] (fun i wr => ∃ k : Nat, i = .int .i64 ((k : Int) + 1) ∧ Hid (riseB ltN (l.take (k + 1)) = true) ∧ Hid (Below w.heap.size w wr)) (fun i _ => l.length + 2 - (intOf i).toNat)
  case atStart => exact ⟨0, rfl, riseB_one _ _, Below.refl _ _⟩
  case round =>
    obtain ⟨k, rfl, HT, HB⟩ := hrel
    by_cases hlt : k + 1 < l.length
    · obtain ⟨x, hx⟩ : ∃ x, l[k]? = some x := ⟨l[k], List.getElem?_eq_getElem (by omega)⟩
      obtain ⟨y, hy⟩ : ∃ y, l[k + 1]? = some y := ⟨l[k + 1], List.getElem?_eq_getElem (by omega)⟩
      obtain ⟨b, off, rfl, hb, hcell1, hcell2⟩ := num_both (HR.out.below HB.out (Nat.le_refl _)) hx hy
      have hlt' : (k : Int) + 1 < (l.length : Int) := by omega
      have HX := Lib.hid hx
      have HY := Lib.hid hy
      clear hx hy
      have hv1 : IntKind.i64.wrap ((k : Int) + 1 - 1) = k := by rw [show (k : Int) + 1 - 1 = k by omega]; exact IntWalk.i64_in _ (by omega)
      by_cases hxy : x < y
      · have HN : Hid (riseB ltN (l.take (k + 1 + 1)) = true) := riseB_next HT.out (by omega) (by rw [Nat.add_sub_cancel]; exact HX.out) HY.out (decide_eq_true hxy)
        have hd : decide (y ≤ x) = false := decide_eq_false (by omega)
        clear hxy
        go_wp2_with fail
        go_quiet (fail)
        go_wp2_with fail
        exact ⟨⟨k + 1, by go_num, HN.out, below_drewN HB.out _⟩, by simp [intOf]; omega⟩
      · have HN : Hid (riseB ltN l = false) := riseB_stop (k := k + 1) (by omega) (by rw [Nat.add_sub_cancel]; exact HX.out) HY.out (decide_eq_false hxy)
        have hd : decide (y ≤ x) = true := decide_eq_true (by omega)
        clear hxy
        go_wp2_with fail
        go_quiet (fail)
        go_wp2_with fail
        go_ret
        exact ⟨by rw [← HRES.out, HN.out]; rfl, below_drewN HB.out _⟩
    · have hge : ¬ ((k : Int) + 1 < (l.length : Int)) := by omega
      rw [List.take_of_length_le (by omega)] at HT
      go_wp2_with fail
      go_ret
      exact ⟨by rw [← HRES.out, HT.out]; rfl, HB.out⟩
set_option maxHeartbeats 4000000 in
theorem lless_any (x y : Lg) (w : World) : Calls Tryz.prog 98 #[.agg #[.int .u32 x.g, .int .u32 x.a, .int .u32 x.b], .agg #[.int .u32 y.g, .int .u32 y.a, .int .u32 y.b]] w fun e w' => e = .returned (.bool (ltL x y)) ∧ Below w.heap.size w w' := by
  have HB : Hid (Below w.heap.size w ((w.alloc (.cells #[.int .u32 x.g, .int .u32 x.a, .int .u32 x.b] 81)).alloc (.cells #[.int .u32 y.g, .int .u32 y.a, .int .u32 y.b] 81))) := ((Below.refl _ _).alloc (Nat.le_refl _) _).alloc (by simp) _
  have e : ltL x y = if x.g = y.g then (if x.a = y.a then decide (x.b < y.b) else decide (x.a < y.a)) else decide (x.g < y.g) := rfl
  by_cases h1 : x.g = y.g
  · rw [if_pos h1] at e
    have q1 : ((x.g : Int) != (y.g : Int)) = false := by rw [h1]; simp
    have q1' : ((x.g : Int) == (y.g : Int)) = true := by rw [h1]; simp
    by_cases h2 : x.a = y.a
    · rw [if_pos h2] at e
      have q2 : ((x.a : Int) != (y.a : Int)) = false := by rw [h2]; simp
      have q2' : ((x.a : Int) == (y.a : Int)) = true := by rw [h2]; simp
      have HE := Lib.hid e
      clear e h1 h2
      go_enter Tryz.func98, Tryz.ntmps98
      go_wp2_with fail
      go_ret
      exact ⟨ret_bool (by rw [HE.out]; try simp), HB.out⟩
    · rw [if_neg h2] at e
      have q2 : ((x.a : Int) != (y.a : Int)) = true := by simp; omega
      have q2' : ((x.a : Int) == (y.a : Int)) = false := by simp; omega
      have HE := Lib.hid e
      clear e h1 h2
      go_enter Tryz.func98, Tryz.ntmps98
      go_wp2_with fail
      go_ret
      exact ⟨ret_bool (by rw [HE.out]; try simp), HB.out⟩
  · rw [if_neg h1] at e
    have q1 : ((x.g : Int) != (y.g : Int)) = true := by simp; omega
    have q1' : ((x.g : Int) == (y.g : Int)) = false := by simp; omega
    have HE := Lib.hid e
    clear e h1
    go_enter Tryz.func98, Tryz.ntmps98
    go_wp2_with fail
    go_ret
    exact ⟨ret_bool (by rw [HE.out]; try simp), HB.out⟩
end Go.Proofs.YtojiieghjhjoaaaGreat
