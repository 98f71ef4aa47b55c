/-
  Several texts in one.
-/
import Derived.Test.YtojiieghjhjoaaaGreatKN17
import Derived.Test.YtojiieghjhjoaaaGreatKN12
import Derived.Test.YtojiieghjhjoaaaGreatKN1
import Derived.Handy
import Derived.WalkSpells
import Derived.WalkLawsBesides
import Derived.LoopTactic
import Derived.Deep.QuietTactic
import Derived.BigQuiet
import Derived.Test.YtojiieghjhjoaaaGreatKN3
import Derived.BigRegion
import Derived.Test.YtojiieghjhjoaaaGreatKN6
import Derived.Test.YtojiieghjhjoaaaGreatKN4
import Derived.Deep.RegionHeld3
set_option linter.unusedVariables false
set_option linter.unusedSimpArgs false
namespace Go.Proofs.YtojiieghjhjoaaaGreat
open Go.RowKit Go.MapKept Go.Shelf
open Go.Lib hiding intOf

theorem AtC.eq_iff {a b : AtC} : (a.origin = b.origin ∧ a.next = b.next ∧ a.hasMed = b.hasMed ∧ a.med = b.med ∧ a.hasPref = b.hasPref ∧ a.pref = b.pref ∧ a.atomic = b.atomic ∧ a.aggAs = b.aggAs ∧ a.aggId = b.aggId ∧ a.hasOrig = b.hasOrig ∧ a.orig = b.orig ∧ a.path = b.path ∧ a.comms = b.comms ∧ a.exts = b.exts ∧ a.larges = b.larges ∧ a.clus = b.clus) ↔ a = b := by
  constructor
  · rintro ⟨h0, h1, h2, h3, h4, h5, h6, h7, h8, h9, h10, h11, h12, h13, h14, h15⟩
    cases a
    cases b
    simp only at h0 h1 h2 h3 h4 h5 h6 h7 h8 h9 h10 h11 h12 h13 h14 h15
    subst h0 h1 h2 h3 h4 h5 h6 h7 h8 h9 h10 h11 h12 h13 h14 h15
    rfl
  · rintro rfl
    exact ⟨rfl, rfl, rfl, rfl, rfl, rfl, rfl, rfl, rfl, rfl, rfl, rfl, rfl, rfl, rfl, rfl⟩
instance : DecidableEq AtC := fun a b => decidable_of_iff _ (AtC.eq_iff (a := a) (b := b))
end Go.Proofs.YtojiieghjhjoaaaGreat
set_option linter.unusedVariables false
set_option linter.unusedSimpArgs false
namespace Go.Proofs.YtojiieghjhjoaaaGreat
open Go.RowKit

theorem fam_five {f : Int} (h1 : 1 ≤ f) (h2 : f ≤ 5) : f = 1 ∨ f = 2 ∨ f = 3 ∨ f = 4 ∨ f = 5 := by omega
end Go.Proofs.YtojiieghjhjoaaaGreat
set_option linter.unusedVariables false
set_option linter.unusedSimpArgs false
namespace Go.Proofs.YtojiieghjhjoaaaGreat
open Go.RowKit

/-- how many bytes a family's addresses have -/
def famSize (f : Int) : Int := if f = 1 ∨ f = 3 ∨ f = 4 then 4 else if f = 2 ∨ f = 5 then 16 else 0

theorem psize_any (f : Int) (w : World) : Calls Tryz.prog 48 #[.int .i64 f] w fun e w' => e = .returned (.int .i64 (famSize f)) ∧ w' = w := by
  by_cases h1 : f = 1
  · subst h1
    go_enter Tryz.func48, Tryz.ntmps48
    go_wp2
    go_ret
    exact ⟨rfl, rfl⟩
  by_cases h2 : f = 2
  · subst h2
    go_enter Tryz.func48, Tryz.ntmps48
    go_wp2
    go_ret
    exact ⟨rfl, rfl⟩
  by_cases h3 : f = 3
  · subst h3
    go_enter Tryz.func48, Tryz.ntmps48
    go_wp2
    go_ret
    exact ⟨rfl, rfl⟩
  by_cases h4 : f = 4
  · subst h4
    go_enter Tryz.func48, Tryz.ntmps48
    go_wp2
    go_ret
    exact ⟨rfl, rfl⟩
  by_cases h5 : f = 5
  · subst h5
    go_enter Tryz.func48, Tryz.ntmps48
    go_wp2
    go_ret
    exact ⟨rfl, rfl⟩
  have e1 : (f == 1) = false := by rw [beq_eq_false_iff_ne]; exact h1
  have e2 : (f == 2) = false := by rw [beq_eq_false_iff_ne]; exact h2
  have e3 : (f == 3) = false := by rw [beq_eq_false_iff_ne]; exact h3
  have e4 : (f == 4) = false := by rw [beq_eq_false_iff_ne]; exact h4
  have e5 : (f == 5) = false := by rw [beq_eq_false_iff_ne]; exact h5
  have hr : Hid (famSize f = 0) := by
    show _ = _
    unfold famSize
    rw [if_neg (by omega), if_neg (by omega)]
  clear h1 h2 h3 h4 h5
  go_enter Tryz.func48, Tryz.ntmps48
  go_wp2
  go_ret
  exact ⟨ret_int hr.out.symm, rfl⟩

theorem apart_any (f : Int) (w : World) : Calls Tryz.prog 104 #[.int .i64 f] w fun e w' => e = .returned (.bool (decide (f = 4 ∨ f = 5))) ∧ w' = w := by
  by_cases h4 : f = 4
  · subst h4
    go_enter Tryz.func104, Tryz.ntmps104
    go_wp2
    go_ret
    exact ⟨rfl, rfl⟩
  by_cases h5 : f = 5
  · subst h5
    go_enter Tryz.func104, Tryz.ntmps104
    go_wp2
    go_ret
    exact ⟨rfl, rfl⟩
  have e4 : (f == 4) = false := by rw [beq_eq_false_iff_ne]; exact h4
  have e5 : (f == 5) = false := by rw [beq_eq_false_iff_ne]; exact h5
  have hr : Hid (decide (f = 4 ∨ f = 5) = false) := decide_eq_false (by omega)
  clear h4 h5
  go_enter Tryz.func104, Tryz.ntmps104
  go_wp2
  go_ret
  exact ⟨ret_bool hr.out.symm, rfl⟩

/-- a byte with its first bits alone -/
def mval (b : UInt8) (left : Int) : UInt8 := if left ≤ 0 then 0 else if left < 8 then UInt8.ofNat (b.toNat / 2 ^ (8 - left).toNat * 2 ^ (8 - left).toNat) else b
/-- the first k bytes done -/
def maskK (l : List UInt8) (n : Int) (k : Nat) : List UInt8 := l.mapIdx fun i b => if i < k then mval b (n - 8 * i) else b
theorem maskK_length (l : List UInt8) (n : Int) (k : Nat) : (maskK l n k).length = l.length := by simp [maskK]
theorem maskK_at (l : List UInt8) (n : Int) (k : Nat) (h : k < l.length) : (maskK l n k)[k]? = some l[k] := by simp [maskK, h]
theorem maskK_succ (l : List UInt8) (n : Int) (k : Nat) (h : k < l.length) : maskK l n (k + 1) = (maskK l n k).set k (mval l[k] (n - 8 * k)) := by
  apply List.ext_getElem?
  intro i
  simp only [maskK, List.getElem?_set, List.getElem?_mapIdx, List.length_mapIdx]
  by_cases hik : k = i
  · subst hik
    simp [h]
  · simp only [hik, if_false]
    by_cases hi : i < k
    · simp [hi, show i < k + 1 by omega]
    · simp [hi, show ¬ i < k + 1 by omega]
theorem maskK_zero (l : List UInt8) (n : Int) : maskK l n 0 = l := by
  apply List.ext_getElem?
  intro i
  simp [maskK]
/-- an address with its first bits alone -/
def maskB (b : ByteArray) (n : Int) : ByteArray := ⟨(maskK b.data.toList n b.size).toArray⟩

theorem OwnM.store {w : World} {base : Nat} {e : TypeId} {g n cap i : Nat} {xs : List Value} (h : OwnM w base e 1 (.slice (some ⟨g, 0, none⟩) n cap) n xs) (hi : i < n) (u : Value) :
    OwnM (w.setCell ⟨g, i, none⟩ u) base e 1 (.slice (some ⟨g, 0, none⟩) n cap) n (xs.set i u) := by
  refine ⟨by simpa using h.1, ?_⟩
  rcases h.2 with ⟨h0, _⟩ | ⟨g', cap', cur, fr, hv, hb, hgg, hfr, hnc, hcm, hcs, htake⟩
  · cases h0
  · injection hv with h1 h2 h3
    injection h1 with h1
    injection h1 with h1
    subst h1; subst h3
    refine .inr ⟨g, cap, cur.setIfInBounds i u, fr, rfl, hb, ?_, by simpa using hfr, hnc, hcm, by simpa using hcs, ?_⟩
    · simp [World.setCell, Array.getElem?_modify, hgg]
    · rw [Array.toList_setIfInBounds, List.take_set, htake]

theorem OwnM.at_ {w : World} {base : Nat} {e : TypeId} {g n cap i : Nat} {xs : List Value} {u : Value} (h : OwnM w base e 1 (.slice (some ⟨g, 0, none⟩) n cap) n xs) (hi : i < n) (hu : xs[i]? = some u) :
    w.cell? ⟨g, i, none⟩ = some u ∧ w.frozen? ⟨g, i, none⟩ = false := by
  obtain ⟨g', cap', hv, _, _, _, _, hc, hf⟩ := h.cells (by omega)
  injection hv with h1 h2 h3
  injection h1 with h1
  injection h1 with h1
  subst h1
  exact ⟨hc i u hu, hf i (by omega)⟩
theorem byteVals_at (l : List UInt8) (i : Nat) (x : UInt8) (h : l[i]? = some x) : (byteVals l)[i]? = some (.int .u8 x.toNat) := by simp [byteVals, h]
theorem byteVals_set (l : List UInt8) (i : Nat) (x : UInt8) : (byteVals l).set i (.int .u8 x.toNat) = byteVals (l.set i x) := by simp [byteVals, List.map_set]

end Go.Proofs.YtojiieghjhjoaaaGreat
set_option linter.unusedVariables false
set_option linter.unusedSimpArgs false
namespace Go.Proofs.YtojiieghjhjoaaaGreat
open Go.RowKit

theorem and_mask (x : UInt8) (s : Nat) (h : s < 8) : bits .and .u8 (x.toNat : Int) (255 * 2 ^ s % 256) = ((UInt8.ofNat (x.toNat / 2 ^ s * 2 ^ s)).toNat : Int) := by
  have key : ∀ (y : Fin 256) (t : Fin 8), bits .and .u8 (y.val : Int) (255 * 2 ^ t.val % 256) = ((UInt8.ofNat (y.val / 2 ^ t.val * 2 ^ t.val)).toNat : Int) := by decide +kernel
  exact key ⟨x.toNat, x.toNat_lt⟩ ⟨s, h⟩

set_option maxHeartbeats 1000000 in
theorem masked_any (b : ByteArray) (N : Int) (w : World) (hb : b.size ≤ 1000000) (h0 : -1000000 ≤ N) (h1 : N ≤ 100000000) :
    Calls Tryz.prog 105 #[.string b, .int .i64 N] w fun e w' => e = .returned (.string (maskB b N)) ∧ Below w.heap.size w w' := by
  have hconv := run_bytes_of_string (P := Tryz.prog) w 9 64 5 b Tryz.underlying9 Tryz.underlying64 Tryz.underlying5
  have hown := OwnM.of_bytes w 5 b w.heap.size (Nat.le_refl _) (by unfold maxLen; omega)
  generalize hW : w.drew.alloc (.cells (bytesRow b (grownCap w b.size 0 5)) 5 ((bytesRow b (grownCap w b.size 0 5)).size, (bytesRow b (grownCap w b.size 0 5)).size + 1)) = W at hconv hown
  have HB : Hid (Below w.heap.size w W) := by
    show Below _ _ _
    rw [← hW]
    go_grown
  have HO := Lib.hid hown
  clear hown hW
  have hlen : b.data.toList.length = b.size := by rw [Array.length_toList]; rfl
  go_enter Tryz.func105, Tryz.ntmps105
  go_wp2_with fail
  go_loopw [12] (fun i wr => ∃ k : Nat, k ≤ b.size ∧ i = .int .i64 k ∧ OwnM wr w.heap.size 5 1 (.slice (some ⟨w.heap.size, 0, none⟩) b.size (grownCap w b.size 0 5)) b.size (byteVals (maskK b.data.toList N k)) ∧ Below w.heap.size w wr) (fun i _ => b.size + 1 - (intOf i).toNat)
  case atStart => exact ⟨0, Nat.zero_le _, rfl, by rw [maskK_zero]; exact HO.out, HB.out⟩
  case round =>
    obtain ⟨k, hk, rfl, ho, hbw⟩ := hrel
    have HO2 := Lib.hid ho
    have HB2 := Lib.hid hbw
    clear ho hbw HO HB hconv
    by_cases hlt : k < b.size
    · have hat := maskK_at b.data.toList N k (by omega)
      have HS := Lib.hid (maskK_succ b.data.toList N k (by omega))
      obtain ⟨hc, hf⟩ := HO2.out.at_ hlt (byteVals_at _ _ _ hat)
      generalize hx : b.data.toList[k] = x at hat HS hc
      have HAT := Lib.hid hat
      clear hat hx
      have hx1 := x.toNat_lt
      by_cases l0 : N - 8 * k ≤ 0
      · have HM : Hid (mval x (N - 8 * k) = 0) := by show _ = _; unfold mval; rw [if_pos l0]
        go_wp2_with fail
        refine ⟨⟨k + 1, by omega, by go_num, ?_, HB2.out.setCell (p := ⟨w.heap.size, k, none⟩) (Nat.le_refl _) _⟩, by simp [intOf]; omega⟩
        rw [HS.out, HM.out, ← byteVals_set]
        exact HO2.out.store hlt _
      · by_cases l8 : N - 8 * k < 8
        · have HM : Hid (mval x (N - 8 * k) = UInt8.ofNat (x.toNat / 2 ^ (8 - (N - 8 * k)).toNat * 2 ^ (8 - (N - 8 * k)).toNat)) := by show _ = _; unfold mval; rw [if_neg l0, if_pos l8]
          have q1 : ¬ (8 - (N - 8 * k) < 0) := by omega
          go_wp2_with fail
          go_region
          all_goals go_wp2_with fail
          refine ⟨⟨k + 1, by omega, by go_num, ?_, below_drewN (HB2.out.setCell (p := ⟨w.heap.size, k, none⟩) (Nat.le_refl _) _) 1⟩, by simp [intOf]; omega⟩
          rw [HS.out, HM.out, ← byteVals_set, and_mask x _ (by omega)]
          exact (HO2.out.store hlt _).drew
        · have HM : Hid (mval x (N - 8 * k) = x) := by show _ = _; unfold mval; rw [if_neg l0, if_neg l8]
          go_wp2_with fail
          refine ⟨⟨k + 1, by omega, by go_num, ?_, HB2.out⟩, by simp [intOf]; omega⟩
          have e : (maskK b.data.toList N k).set k x = maskK b.data.toList N k := by
            apply List.ext_getElem?
            intro i
            rw [List.getElem?_set]
            split
            · rename_i h
              subst h
              rw [HAT.out]
              split
              · rfl
              · rename_i h
                exact absurd (by rw [maskK_length]; omega) h
            · rfl
          rw [HS.out, HM.out, e]
          exact HO2.out
    · obtain rfl : b.size = k := by omega
      have hstr := run_string_m (P := Tryz.prog) wr 64 9 5 w.heap.size b.size _ (maskK b.data.toList N b.size) Tryz.underlying64 Tryz.underlying5 Tryz.underlying9 HO2.out
      go_wp2_with fail
      go_ret
      exact ⟨rfl, HB2.out⟩

end Go.Proofs.YtojiieghjhjoaaaGreat
set_option linter.unusedVariables false
set_option linter.unusedSimpArgs false
namespace Go.Proofs.YtojiieghjhjoaaaGreat
open Go.RowKit

def labB (f : Int) : Bool := decide (3 ≤ f)
theorem nlab_any (f : Int) (w : World) (h1 : 1 ≤ f) (h2 : f ≤ 5) : Calls Tryz.prog 88 #[.int .i64 f] w fun e w' => e = .returned (.bool (labB f)) ∧ w' = w := by
  rcases fam_five h1 h2 with rfl | rfl | rfl | rfl | rfl
  all_goals
    go_enter Tryz.func88, Tryz.ntmps88
    go_wp2
    go_ret
    exact ⟨rfl, rfl⟩
theorem famSize_five {f : Int} (h : famSize f ≠ 0) : 1 ≤ f ∧ f ≤ 5 := by
  unfold famSize at h
  split at h
  · omega
  · split at h
    · omega
    · exact absurd rfl h

end Go.Proofs.YtojiieghjhjoaaaGreat
