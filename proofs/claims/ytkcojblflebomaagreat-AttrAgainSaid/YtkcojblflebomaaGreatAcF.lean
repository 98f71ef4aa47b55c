/-
  What is laid is split as it was: the plain law. Conditions: short values.
-/
import Derived.Test.YtkcojblflebomaaGreatAcD
import Derived.Test.YtkcojblflebomaaGreatAcC
set_option linter.unusedVariables false
set_option linter.unusedSimpArgs false
namespace Go.Proofs.YtkcojblflebomaaGreat
open Go.RowKit Go.MapKept Go.Shelf
open Go.Lib hiding intOf

/-- a raw attribute as it comes back -/
def normR (r : Rw) : Rw := ⟨if 255 < r.v.size then set8 r.f else clr8 r.f, r.t, r.v⟩
theorem bit_set (f : UInt8) : bit8 (set8 f).toNat = true := by
  have h : ∀ x : Fin 256, bit8 (set8 (UInt8.ofNat x.val)).toNat = true := by decide +kernel
  have := h ⟨f.toNat, f.toNat_lt⟩
  simpa using this
theorem bit_clr (f : UInt8) : bit8 (clr8 f).toNat = false := by
  have h : ∀ x : Fin 256, bit8 (clr8 (UInt8.ofNat x.val)).toNat = false := by decide +kernel
  have := h ⟨f.toNat, f.toNat_lt⟩
  simpa using this
theorem clr_set (f : UInt8) : clr8 (set8 f) = clr8 f := by
  have h : ∀ x : Fin 256, clr8 (set8 (UInt8.ofNat x.val)) = clr8 (UInt8.ofNat x.val) := by decide +kernel
  have := h ⟨f.toNat, f.toNat_lt⟩
  simpa using this
theorem clr_clr (f : UInt8) : clr8 (clr8 f) = clr8 f := by
  have h : ∀ x : Fin 256, clr8 (clr8 (UInt8.ofNat x.val)) = clr8 (UInt8.ofNat x.val) := by decide +kernel
  have := h ⟨f.toNat, f.toNat_lt⟩
  simpa using this
theorem bts_at (l : List UInt8) (i : Nat) (h : i < (bts l).size) : (bts l)[i] = l[i]'(by rw [← bts_size l]; exact h) := by
  show (bts l).data[i] = _
  exact List.getElem_toArray h
theorem bts_ext (l : List UInt8) (a b : Nat) : (bts l).extract a b = bts ((l.drop a).take (b - a)) := bytes_ext (by rw [ext_list, bts_list, bts_list])
theorem two_val (n : Nat) (h : n < 65536) : beVal [UInt8.ofNat (n / 256), UInt8.ofNat n] = n := by
  simp [beVal]
  omega
theorem one_val (n : Nat) (h : n < 256) : beVal [UInt8.ofNat n] = n := by
  simp [beVal]
  omega
theorem step_raw (r : Rw) (R : List UInt8) (h : r.v.size < 65536) : splitStep (bts (rawB r ++ R)) = some (normR r, bts R) := by
  have hv : r.v.data.toList.length = r.v.size := rfl
  by_cases hl : 255 < r.v.size
  · have hb : rawB r ++ R = set8 r.f :: r.t :: UInt8.ofNat (r.v.size / 256) :: UInt8.ofNat r.v.size :: (r.v.data.toList ++ R) := by rw [rawB_long hl]; simp
    rw [hb]
    have hsz : (bts (set8 r.f :: r.t :: UInt8.ofNat (r.v.size / 256) :: UInt8.ofNat r.v.size :: (r.v.data.toList ++ R))).size = 4 + r.v.size + R.length := by
      rw [bts_size]
      simp [hv]
      omega
    rw [split_flat (sz := 2) (n := r.v.size) (by omega) (by rw [hd_byte0 _ (by omega), bts_at]; show lenSize (set8 r.f).toNat = 2; unfold lenSize; rw [bit_set]; rfl) (by omega) (by
      rw [bts_ext, bts_list]
      exact (two_val _ h).symm), if_neg (by omega)]
    simp only [Option.some.injEq, Prod.mk.injEq]
    refine ⟨?_, ?_⟩
    · unfold normR
      rw [if_pos hl]
      refine Rw.eq_iff.1 ⟨?_, ?_, ?_⟩
      · show (bts _)[0] = _
        rw [bts_at]
        rfl
      · show (bts _)[1] = _
        rw [bts_at]
        rfl
      · show (bts _).extract _ _ = r.v
        rw [bts_ext]
        rw [show 2 + 2 + r.v.size - (2 + 2) = r.v.size by omega]
        show bts ((r.v.data.toList ++ R).take r.v.size) = r.v
        rw [List.take_append_of_le_length (Nat.le_of_eq hv.symm), List.take_of_length_le (Nat.le_of_eq hv), bts_self]
    · rw [hsz, bts_ext]
      congr 1
      rw [show 4 + r.v.size + R.length - (2 + 2 + r.v.size) = R.length by omega, show 2 + 2 + r.v.size = r.v.size + 4 by omega]
      show ((r.v.data.toList ++ R).drop r.v.size).take R.length = R
      rw [← hv, List.drop_left, List.take_length]
  · have hb : rawB r ++ R = clr8 r.f :: r.t :: UInt8.ofNat r.v.size :: (r.v.data.toList ++ R) := by rw [rawB_short hl]; simp
    rw [hb]
    have hsz : (bts (clr8 r.f :: r.t :: UInt8.ofNat r.v.size :: (r.v.data.toList ++ R))).size = 3 + r.v.size + R.length := by
      rw [bts_size]
      simp [hv]
      omega
    rw [split_flat (sz := 1) (n := r.v.size) (by omega) (by rw [hd_byte0 _ (by omega), bts_at]; show lenSize (clr8 r.f).toNat = 1; unfold lenSize; rw [bit_clr]; rfl) (by omega) (by
      rw [bts_ext, bts_list]
      exact (one_val _ (by omega)).symm), if_neg (by omega)]
    simp only [Option.some.injEq, Prod.mk.injEq]
    refine ⟨?_, ?_⟩
    · unfold normR
      rw [if_neg hl]
      refine Rw.eq_iff.1 ⟨?_, ?_, ?_⟩
      · show (bts _)[0] = _
        rw [bts_at]
        rfl
      · show (bts _)[1] = _
        rw [bts_at]
        rfl
      · show (bts _).extract _ _ = r.v
        rw [bts_ext]
        rw [show 2 + 1 + r.v.size - (2 + 1) = r.v.size by omega]
        show bts ((r.v.data.toList ++ R).take r.v.size) = r.v
        rw [List.take_append_of_le_length (Nat.le_of_eq hv.symm), List.take_of_length_le (Nat.le_of_eq hv), bts_self]
    · rw [hsz, bts_ext]
      congr 1
      rw [show 3 + r.v.size + R.length - (2 + 1 + r.v.size) = R.length by omega, show 2 + 1 + r.v.size = r.v.size + 3 by omega]
      show ((r.v.data.toList ++ R).drop r.v.size).take R.length = R
      rw [← hv, List.drop_left, List.take_length]
theorem rawB_pos (r : Rw) : 3 ≤ (rawB r).length := by
  by_cases hl : 255 < r.v.size
  · rw [rawB_long hl]; simp
  · rw [rawB_short hl]; simp
theorem rawB_len (r : Rw) : r.v.size + 3 ≤ (rawB r).length := by
  have hv : r.v.data.toList.length = r.v.size := rfl
  by_cases hl : 255 < r.v.size
  · rw [rawB_long hl, List.length_append, hv]; simp; omega
  · rw [rawB_short hl, List.length_append, hv]; simp; omega
theorem split_lays : ∀ (L : List Rw) (R : List UInt8), (∀ r ∈ L, r.v.size < 65536) → splitA (bts (laysB L ++ R)) = (splitA (bts R)).map (L.map normR ++ ·)
  | [], R, _ => by simp [laysB]
  | r :: L, R, h => by
    have e : laysB (r :: L) ++ R = rawB r ++ (laysB L ++ R) := by simp [laysB]
    rw [e, splitA_step (by rw [bts_size, List.length_append]; have := rawB_pos r; omega) (step_raw r _ (h r (List.mem_cons_self ..))), split_lays L R (fun q hq => h q (List.mem_cons_of_mem _ hq)), Option.map_map]
    congr 1
theorem lays_each {L : List Rw} (h : (laysB L).length ≤ 4077) : ∀ r ∈ L, r.v.size < 65536 := by
  intro r hr
  have h1 : (rawB r).length ≤ (laysB L).length := by
    unfold laysB
    induction L with
    | nil => cases hr
    | cons q M ih =>
      rw [List.flatMap_cons, List.length_append]
      rcases List.mem_cons.1 hr with rfl | hr
      · omega
      · have := ih (by have h2 : (laysB (q :: M)).length = (rawB q).length + (laysB M).length := by unfold laysB; rw [List.flatMap_cons, List.length_append]
                       omega) hr
        omega
  have := rawB_len r
  omega
theorem split_back {L : List Rw} (h : (laysB L).length ≤ 4077) : splitA (bts (laysB L)) = some (L.map normR) := by
  have h2 := split_lays L [] (lays_each h)
  have h3 : splitA (bts []) = some [] := splitA_end (by rw [bts_size]; rfl)
  rw [List.append_nil, h3] at h2
  simpa using h2
theorem split_more {L : List Rw} (h : (laysB L).length ≤ 4077) : splitA (bts (laysB L) ++ ⟨#[64]⟩) = none := by
  rw [show (⟨#[64]⟩ : ByteArray) = bts [64] from rfl, bts_app, split_lays L [64] (lays_each h), splitA_no (by rw [bts_size]; decide) (split_tiny (by rw [bts_size]; decide))]
  rfl
end Go.Proofs.YtkcojblflebomaaGreat
