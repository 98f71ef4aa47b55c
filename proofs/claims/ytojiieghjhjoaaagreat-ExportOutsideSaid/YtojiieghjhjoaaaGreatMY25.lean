/-
  Several texts in one.
-/
import Derived.Test.YtojiieghjhjoaaaGreatMY1
import Derived.Handy
import Derived.WalkSpells
import Derived.WalkLawsBesides
import Derived.LoopTactic
import Derived.Deep.QuietTactic
import Derived.BigQuiet
import Derived.Test.YtojiieghjhjoaaaGreatMY3
import Derived.BigRegion
set_option linter.unusedVariables false
set_option linter.unusedSimpArgs false
namespace Go.Proofs.YtojiieghjhjoaaaGreat
open Go.RowKit

theorem fam_five {f : Int} (h1 : 1 ≤ f) (h2 : f ≤ 5) : f = 1 ∨ f = 2 ∨ f = 3 ∨ f = 4 ∨ f = 5 := by omega
end Go.Proofs.YtojiieghjhjoaaaGreat
set_option linter.unusedVariables false
set_option linter.unusedSimpArgs false
namespace Go.Proofs.YtojiieghjhjoaaaGreat
open Go.RowKit

/-- how many bytes a family's addresses have -/
def famSize (f : Int) : Int := if f = 1 ∨ f = 3 ∨ f = 4 then 4 else if f = 2 ∨ f = 5 then 16 else 0

theorem psize_any (f : Int) (w : World) : Calls Tryz.prog 48 #[.int .i64 f] w fun e w' => e = .returned (.int .i64 (famSize f)) ∧ w' = w := by
  by_cases h1 : f = 1
  · subst h1
    go_enter Tryz.func48, Tryz.ntmps48
    go_wp2
    go_ret
    exact ⟨rfl, rfl⟩
  by_cases h2 : f = 2
  · subst h2
    go_enter Tryz.func48, Tryz.ntmps48
    go_wp2
    go_ret
    exact ⟨rfl, rfl⟩
  by_cases h3 : f = 3
  · subst h3
    go_enter Tryz.func48, Tryz.ntmps48
    go_wp2
    go_ret
    exact ⟨rfl, rfl⟩
  by_cases h4 : f = 4
  · subst h4
    go_enter Tryz.func48, Tryz.ntmps48
    go_wp2
    go_ret
    exact ⟨rfl, rfl⟩
  by_cases h5 : f = 5
  · subst h5
    go_enter Tryz.func48, Tryz.ntmps48
    go_wp2
    go_ret
    exact ⟨rfl, rfl⟩
  have e1 : (f == 1) = false := by rw [beq_eq_false_iff_ne]; exact h1
  have e2 : (f == 2) = false := by rw [beq_eq_false_iff_ne]; exact h2
  have e3 : (f == 3) = false := by rw [beq_eq_false_iff_ne]; exact h3
  have e4 : (f == 4) = false := by rw [beq_eq_false_iff_ne]; exact h4
  have e5 : (f == 5) = false := by rw [beq_eq_false_iff_ne]; exact h5
  have hr : Hid (famSize f = 0) := by
    show _ = _
    unfold famSize
    rw [if_neg (by omega), if_neg (by omega)]
  clear h1 h2 h3 h4 h5
  go_enter Tryz.func48, Tryz.ntmps48
  go_wp2
  go_ret
  exact ⟨ret_int hr.out.symm, rfl⟩

theorem apart_any (f : Int) (w : World) : Calls Tryz.prog 104 #[.int .i64 f] w fun e w' => e = .returned (.bool (decide (f = 4 ∨ f = 5))) ∧ w' = w := by
  by_cases h4 : f = 4
  · subst h4
    go_enter Tryz.func104, Tryz.ntmps104
    go_wp2
    go_ret
    exact ⟨rfl, rfl⟩
  by_cases h5 : f = 5
  · subst h5
    go_enter Tryz.func104, Tryz.ntmps104
    go_wp2
    go_ret
    exact ⟨rfl, rfl⟩
  have e4 : (f == 4) = false := by rw [beq_eq_false_iff_ne]; exact h4
  have e5 : (f == 5) = false := by rw [beq_eq_false_iff_ne]; exact h5
  have hr : Hid (decide (f = 4 ∨ f = 5) = false) := decide_eq_false (by omega)
  clear h4 h5
  go_enter Tryz.func104, Tryz.ntmps104
  go_wp2
  go_ret
  exact ⟨ret_bool hr.out.symm, rfl⟩

/-- a byte with its first bits alone -/
def mval (b : UInt8) (left : Int) : UInt8 := if left ≤ 0 then 0 else if left < 8 then UInt8.ofNat (b.toNat / 2 ^ (8 - left).toNat * 2 ^ (8 - left).toNat) else b
/-- the first k bytes done -/
def maskK (l : List UInt8) (n : Int) (k : Nat) : List UInt8 := l.mapIdx fun i b => if i < k then mval b (n - 8 * i) else b
theorem maskK_length (l : List UInt8) (n : Int) (k : Nat) : (maskK l n k).length = l.length := by simp [maskK]
theorem maskK_at (l : List UInt8) (n : Int) (k : Nat) (h : k < l.length) : (maskK l n k)[k]? = some l[k] := by simp [maskK, h]
theorem maskK_succ (l : List UInt8) (n : Int) (k : Nat) (h : k < l.length) : maskK l n (k + 1) = (maskK l n k).set k (mval l[k] (n - 8 * k)) := by
  apply List.ext_getElem?
  intro i
  simp only [maskK, List.getElem?_set, List.getElem?_mapIdx, List.length_mapIdx]
  by_cases hik : k = i
  · subst hik
    simp [h]
  · simp only [hik, if_false]
    by_cases hi : i < k
    · simp [hi, show i < k + 1 by omega]
    · simp [hi, show ¬ i < k + 1 by omega]
theorem maskK_zero (l : List UInt8) (n : Int) : maskK l n 0 = l := by
  apply List.ext_getElem?
  intro i
  simp [maskK]
/-- an address with its first bits alone -/
def maskB (b : ByteArray) (n : Int) : ByteArray := ⟨(maskK b.data.toList n b.size).toArray⟩

theorem OwnM.store {w : World} {base : Nat} {e : TypeId} {g n cap i : Nat} {xs : List Value} (h : OwnM w base e 1 (.slice (some ⟨g, 0, none⟩) n cap) n xs) (hi : i < n) (u : Value) :
    OwnM (w.setCell ⟨g, i, none⟩ u) base e 1 (.slice (some ⟨g, 0, none⟩) n cap) n (xs.set i u) := by
  refine ⟨by simpa using h.1, ?_⟩
  rcases h.2 with ⟨h0, _⟩ | ⟨g', cap', cur, fr, hv, hb, hgg, hfr, hnc, hcm, hcs, htake⟩
  · cases h0
  · injection hv with h1 h2 h3
    injection h1 with h1
    injection h1 with h1
    subst h1; subst h3
    refine .inr ⟨g, cap, cur.setIfInBounds i u, fr, rfl, hb, ?_, by simpa using hfr, hnc, hcm, by simpa using hcs, ?_⟩
    · simp [World.setCell, Array.getElem?_modify, hgg]
    · rw [Array.toList_setIfInBounds, List.take_set, htake]

theorem OwnM.at_ {w : World} {base : Nat} {e : TypeId} {g n cap i : Nat} {xs : List Value} {u : Value} (h : OwnM w base e 1 (.slice (some ⟨g, 0, none⟩) n cap) n xs) (hi : i < n) (hu : xs[i]? = some u) :
    w.cell? ⟨g, i, none⟩ = some u ∧ w.frozen? ⟨g, i, none⟩ = false := by
  obtain ⟨g', cap', hv, _, _, _, _, hc, hf⟩ := h.cells (by omega)
  injection hv with h1 h2 h3
  injection h1 with h1
  injection h1 with h1
  subst h1
  exact ⟨hc i u hu, hf i (by omega)⟩
theorem byteVals_at (l : List UInt8) (i : Nat) (x : UInt8) (h : l[i]? = some x) : (byteVals l)[i]? = some (.int .u8 x.toNat) := by simp [byteVals, h]
theorem byteVals_set (l : List UInt8) (i : Nat) (x : UInt8) : (byteVals l).set i (.int .u8 x.toNat) = byteVals (l.set i x) := by simp [byteVals, List.map_set]

end Go.Proofs.YtojiieghjhjoaaaGreat
