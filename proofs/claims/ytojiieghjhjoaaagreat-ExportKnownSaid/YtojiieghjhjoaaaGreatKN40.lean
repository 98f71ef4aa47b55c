/-
  Several texts in one.
-/
import Derived.Test.YtojiieghjhjoaaaGreatKN39
set_option linter.unusedVariables false
set_option linter.unusedSimpArgs false
namespace Go.Proofs.YtojiieghjhjoaaaGreat
open Go.RowKit Go.MapKept Go.Shelf
open Go.Lib hiding intOf

theorem beq_factsY (f c : Int) : (f = c ∧ (f == c) = true) ∨ (f ≠ c ∧ (f == c) = false) := by
  by_cases h : f = c
  · exact .inl ⟨h, by rw [h]; simp⟩
  · exact .inr ⟨h, by rw [beq_eq_false_iff_ne]; exact h⟩
/-- a path's length -/
def segLen (n : Int) (s : Sg) : Int := if s.kind = 2 then wrap64 (n + s.as_.length) else if s.kind = 1 then wrap64 (n + 1) else n
def lenF (l : List Sg) : Int := l.foldl segLen 0
theorem lenF_succ (l : List Sg) (j : Nat) (s : Sg) (h : l[j]? = some s) : lenF (l.take (j + 1)) = segLen (lenF (l.take j)) s := by
  unfold lenF
  rw [List.take_add_one, h]
  simp
set_option maxHeartbeats 4000000 in
theorem length_any (A : Option Addr) (l : List Sg) (cap : Nat) (w : World) (h : Rd w A 2 (l.map Sg.cs)) (h1 : l.length ≤ cap) (h2 : cap ≤ maxLen) :
    Calls Tryz.prog 28 #[.slice A l.length cap] w fun e w' => e = .returned (.int .i64 (lenF l)) ∧ Below w.heap.size w w' := by
  have HR := Lib.hid h
  have hmax : cap ≤ 9223372036854775807 := h2
  clear h h2
  go_enter Tryz.func28, Tryz.ntmps28
  go_wp2_with fail
  go_loopw [3, 8] (fun n x wr => ∃ j : Nat, j ≤ l.length ∧ n = .int .i64 (lenF (l.take j)) ∧ x = .int .i64 j ∧ Hid (Below w.heap.size w wr)) (fun n x _ => l.length + 1 - (intOf x).toNat)
  case atStart => exact ⟨0, by omega, rfl, rfl, Lib.hid (Below.refl _ _)⟩
  case round =>
    obtain ⟨j, hj, rfl, rfl, HB⟩ := hrel
    by_cases hlt : j < l.length
    · obtain ⟨s, hs⟩ : ∃ s, l[j]? = some s := ⟨l[j]'hlt, List.getElem?_eq_getElem hlt⟩
      obtain ⟨b, off, rfl, hb, c0, c1⟩ := sg_cells HR.out hs
      have c0 := (HB.out.cell (p := ⟨b, off + j * 2, none⟩) hb).trans c0
      have c1 := (HB.out.cell (p := ⟨b, off + j * 2 + 1, none⟩) hb).trans c1
      have HS := Lib.hid (lenF_succ l j s hs)
      have HB1 := Lib.hid (fun cs => HB.out.alloc HB.out.size (.cells cs 67))
      clear hs HB
      generalize hn : lenF (l.take j) = n at *
      rcases beq_factsY s.kind 2 with ⟨k1, k2⟩ | ⟨k1, k2⟩
      · go_wp2_with fail
        exact ⟨⟨j + 1, by omega, by rw [HS.out, segLen, if_pos k1], by go_num, HB1.out _⟩, by simp [intOf]; omega⟩
      · rcases beq_factsY s.kind 1 with ⟨m1, m2⟩ | ⟨m1, m2⟩
        · go_wp2_with fail
          exact ⟨⟨j + 1, by omega, by rw [HS.out, segLen, if_neg k1, if_pos m1], by go_num, HB1.out _⟩, by simp [intOf]; omega⟩
        · go_wp2_with fail
          exact ⟨⟨j + 1, by omega, by rw [HS.out, segLen, if_neg k1, if_neg m1], by go_num, HB1.out _⟩, by simp [intOf]; omega⟩
    · obtain rfl : j = l.length := by omega
      rw [List.take_length]
      clear HR
      go_wp2_with fail
      go_ret
      exact ⟨rfl, HB.out⟩

end Go.Proofs.YtojiieghjhjoaaaGreat
