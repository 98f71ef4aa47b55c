/-
  Several texts in one.
-/
import Derived.Test.YtkcojblflebomaaGreatNR41
import Derived.Test.YtkcojblflebomaaGreatNR37
set_option linter.unusedVariables false
set_option linter.unusedSimpArgs false
namespace Go.Proofs.YtkcojblflebomaaGreat
open Go.RowKit Go.MapKept Go.Shelf
open Go.Lib hiding intOf
open Go.Sort hiding Below

theorem asN_one (S : Nat) : ∀ (k : Nat) (v : ByteArray), asN S k v = oneN S (fun s => hd s S) k v
  | 0, v => rfl
  | k + 1, v => by
    show hd v S :: asN S k (nx v S) = hd v S :: oneN S _ k (nx v S)
    rw [asN_one S k]
theorem oneN_get {α : Type} (S : Nat) (one : ByteArray → α) : ∀ (k : Nat) (v : ByteArray) (i : Nat), i < k → (oneN S one k v)[i]? = some (one (nxN S i v))
  | 0, v, i, h => absurd h (by omega)
  | k + 1, v, 0, h => rfl
  | k + 1, v, i + 1, h => by
    show (oneN S one k (nx v S))[i]? = _
    rw [oneN_get S one k _ i (by omega)]
    rfl
theorem asN_get (S k : Nat) (v : ByteArray) (i : Nat) (h : i < k) : (asN S k v)[i]? = some (hd (nxN S i v) S) := by
  rw [asN_one, oneN_get _ _ _ _ _ h]
theorem hd_list (s t : ByteArray) (n : Nat) (h : s.data.toList = t.data.toList) : hd s n = hd t n := by
  unfold hd
  rw [h]
theorem lg_get (m : Nat) (v : ByteArray) (k : Nat) (x : Lg) (h : (oneN 12 lg12 m v)[k]? = some x) : (asN 4 (3 * m) v)[3 * k]? = some x.g ∧ (asN 4 (3 * m) v)[3 * k + 1]? = some x.a ∧ (asN 4 (3 * m) v)[3 * k + 2]? = some x.b := by
  have hk : k < m := by
    obtain ⟨h1, _⟩ := List.getElem?_eq_some_iff.1 h
    rwa [oneN_len] at h1
  rw [oneN_get _ _ _ _ _ hk] at h
  injection h with h
  subst h
  rw [asN_get _ _ _ _ (by omega), asN_get _ _ _ _ (by omega), asN_get _ _ _ _ (by omega)]
  refine ⟨congrArg some (hd_list _ _ _ ?_), congrArg some (hd_list _ _ _ ?_), congrArg some (hd_list _ _ _ ?_)⟩
  · rw [nxN_list, nxN_list]
    congr 1
    omega
  · rw [nx_list, nxN_list, nxN_list, List.drop_drop]
    congr 1
    omega
  · rw [nx_list, nxN_list, nxN_list, List.drop_drop]
    congr 1
    omega
/-- numbers rise as the document lays them -/
theorem insN_dd (l : List Nat) : insAll ltN [] l = dd (srt ltN l) := insAll_dd swoN ltN_total l
theorem insL_dd (l : List Lg) : insAll ltL [] l = dd (srt ltL l) := insAll_dd swoL ltL_total l
theorem t8_bad {v : ByteArray} (four : Bool) (c : AtC) (h : v.size = 0 ∨ v.size % 4 ≠ 0) : (tab 8 v four c).2 = false := by
  show (take8 v c).2 = false
  unfold take8
  rw [readC_none h]
theorem t8_long {v : ByteArray} (four : Bool) (c : AtC) (h : ¬ (v.size = 0 ∨ v.size % 4 ≠ 0)) (h2 : 64 < (insAll ltN [] (asN 4 (v.size / 4) v)).length) : (tab 8 v four c).2 = false := by
  show (take8 v c).2 = false
  unfold take8
  rw [insN_dd, asN_one] at h2
  rw [readC_long (by omega) (by omega) h2]
theorem t8_ok {v : ByteArray} (four : Bool) (c : AtC) (h : ¬ (v.size = 0 ∨ v.size % 4 ≠ 0)) (h2 : ¬ 64 < (insAll ltN [] (asN 4 (v.size / 4) v)).length) : tab 8 v four c = ({ c with comms := insAll ltN [] (asN 4 (v.size / 4) v) }, true) := by
  show take8 v c = _
  unfold take8
  rw [insN_dd, asN_one] at h2 ⊢
  rw [readC_some (by omega) (by omega) h2]
theorem t16_bad {v : ByteArray} (four : Bool) (c : AtC) (h : v.size = 0 ∨ v.size % 8 ≠ 0) : (tab 16 v four c).2 = false := by
  show (take16 v c).2 = false
  unfold take16
  rw [readC_none h]
theorem t16_long {v : ByteArray} (four : Bool) (c : AtC) (h : ¬ (v.size = 0 ∨ v.size % 8 ≠ 0)) (h2 : 64 < (insAll ltN [] (asN 8 (v.size / 8) v)).length) : (tab 16 v four c).2 = false := by
  show (take16 v c).2 = false
  unfold take16
  rw [insN_dd, asN_one] at h2
  rw [readC_long (by omega) (by omega) h2]
theorem t16_ok {v : ByteArray} (four : Bool) (c : AtC) (h : ¬ (v.size = 0 ∨ v.size % 8 ≠ 0)) (h2 : ¬ 64 < (insAll ltN [] (asN 8 (v.size / 8) v)).length) : tab 16 v four c = ({ c with exts := insAll ltN [] (asN 8 (v.size / 8) v) }, true) := by
  show take16 v c = _
  unfold take16
  rw [insN_dd, asN_one] at h2 ⊢
  rw [readC_some (by omega) (by omega) h2]
theorem t10_bad {v : ByteArray} (four : Bool) (c : AtC) (h : v.size = 0 ∨ v.size % 4 ≠ 0 ∨ 128 < v.size) : tab 10 v four c = (c, false) := by
  show take10 v c = _
  unfold take10
  rw [if_pos h]
theorem t10_ok {v : ByteArray} (four : Bool) (c : AtC) (h : ¬ (v.size = 0 ∨ v.size % 4 ≠ 0 ∨ 128 < v.size)) : tab 10 v four c = ({ c with clus := asN 4 (v.size / 4) v }, true) := by
  show take10 v c = _
  unfold take10
  rw [if_neg h]
theorem t32_bad {v : ByteArray} (four : Bool) (c : AtC) (h : v.size = 0 ∨ v.size % 12 ≠ 0) : (tab 32 v four c).2 = false := by
  show (take32 v c).2 = false
  unfold take32
  rw [readC_none h]
theorem t32_long {v : ByteArray} (four : Bool) (c : AtC) (h : ¬ (v.size = 0 ∨ v.size % 12 ≠ 0)) (h2 : 64 < (insAll ltL [] (oneN 12 lg12 (v.size / 12) v)).length) : (tab 32 v four c).2 = false := by
  show (take32 v c).2 = false
  unfold take32
  rw [insL_dd] at h2
  rw [readC_long (by omega) (by omega) h2]
theorem t32_ok {v : ByteArray} (four : Bool) (c : AtC) (h : ¬ (v.size = 0 ∨ v.size % 12 ≠ 0)) (h2 : ¬ 64 < (insAll ltL [] (oneN 12 lg12 (v.size / 12) v)).length) : tab 32 v four c = ({ c with larges := insAll ltL [] (oneN 12 lg12 (v.size / 12) v) }, true) := by
  show take32 v c = _
  unfold take32
  rw [insL_dd] at h2 ⊢
  rw [readC_some (by omega) (by omega) h2]
end Go.Proofs.YtkcojblflebomaaGreat
