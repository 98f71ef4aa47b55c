/-
  What Split answers, nil or not; a list of one's own whose elements are stored over. Conditions: sizes.
-/
import Derived.Test.YtkcojblflebomaaGreatAcD
import Derived.Test.YtkcojblflebomaaGreatAcB
import Derived.Test.YtkcojblflebomaaGreatAbO
import Derived.Deep.MidRow
set_option linter.unusedVariables false
set_option linter.unusedSimpArgs false
namespace Go.Proofs.YtkcojblflebomaaGreat
open Go.RowKit Go.MapKept Go.Shelf
open Go.Lib hiding intOf

theorem SplitPost.both {base : Nat} {res : Option (List Rw)} {w : World} {e : Ending} (h : SplitPost base res w e) : ∃ A c, e = .returned (.tuple #[.slice A (res.getD []).length c, .bool res.isSome]) ∧ OwnL w base 32 3 Rw.cs (.slice A (res.getD []).length c) (res.getD []) := by
  cases res with
  | none => exact ⟨none, 0, h, OwnL.nil _ _ _ _ _⟩
  | some L =>
    obtain ⟨v, he, ho⟩ := h
    obtain ⟨A, c, rfl⟩ := ho.form
    exact ⟨A, c, he, ho⟩
theorem splitStep_fits {s t : ByteArray} {r : Rw} (h : splitStep s = some (r, t)) : r.v.size ≤ s.size ∧ t.size + 3 + r.v.size ≤ s.size := by
  unfold splitStep at h
  split at h
  · cases h
  · split at h
    · cases h
    · split at h
      · cases h
      · simp only [Option.some.injEq, Prod.mk.injEq] at h
        obtain ⟨rfl, rfl⟩ := h
        simp only [nx_size, ByteArray.size_extract] at *
        have : 1 ≤ lenSize (hd s 1) := by unfold lenSize; split <;> omega
        omega
theorem splitF_fits : ∀ (n : Nat) (s : ByteArray) (L : List Rw), splitF n s = some L → (∀ r ∈ L, r.v.size ≤ s.size) ∧ L.length * 3 ≤ s.size
  | 0, s, L, h => by
    unfold splitF at h
    split at h
    · cases h
      exact ⟨fun r hr => (by cases hr), by simp⟩
    · cases h
  | n + 1, s, L, h => by
    unfold splitF at h
    split at h
    · cases h
      exact ⟨fun r hr => (by cases hr), by simp⟩
    · cases hs : splitStep s with
      | none => rw [hs] at h; cases h
      | some x =>
        obtain ⟨r, t⟩ := x
        rw [hs] at h
        simp only at h
        cases hf : splitF n t with
        | none => rw [hf] at h; cases h
        | some M =>
          rw [hf] at h
          obtain rfl : r :: M = L := Option.some.inj h
          have h1 := splitStep_fits hs
          have h2 := splitF_fits n t M hf
          refine ⟨fun q hq => ?_, by rw [List.length_cons]; omega⟩
          rcases List.mem_cons.1 hq with rfl | hq
          · exact h1.1
          · have := h2.1 q hq
            omega
theorem splitA_fits (s : ByteArray) : (∀ r ∈ (splitA s).getD [], r.v.size ≤ s.size) ∧ ((splitA s).getD []).length * 3 ≤ s.size := by
  cases h : splitA s with
  | none => exact ⟨fun r hr => (by cases hr), by simp⟩
  | some L => exact splitF_fits _ _ _ h
/-- Split, nil or not -/
theorem split_both (s : ByteArray) (w : World) (hm0 : (s.size : Int) ≤ 1048576) (L : List Rw) (b : Bool) (h : splitA s = if b = true then some L else none) (hL : b = false → L = []) :
    Calls Tryz.prog 17 #[.string s] w fun e w' => (∃ A c, e = .returned (.tuple #[.slice A L.length c, .bool b]) ∧ OwnL w' (w.heap.size + 1) 32 3 Rw.cs (.slice A L.length c) L) ∧ Below w.heap.size w w' := by
  refine (split_any s w hm0).mono fun e w' ⟨hp, hb⟩ => ⟨?_, hb⟩
  have h2 := hp.both
  rw [h] at h2
  cases b with
  | true => exact h2
  | false => rw [hL rfl]; exact h2
theorem rsplit_both (s : ByteArray) (w : World) (hm0 : (s.size : Int) ≤ 1048576) (L : List Rw) (b : Bool) (h : splitA s = if b = true then some L else none) (hL : b = false → L = []) :
    Calls Tryz.prog 18 #[.string s] w fun e w' => (∃ A c, e = .returned (.tuple #[.slice A L.length c, .bool b]) ∧ OwnL w' w.heap.size 32 3 Rw.cs (.slice A L.length c) L) ∧ Below w.heap.size w w' := by
  refine (rsplit_any s w hm0).mono fun e w' ⟨hp, hb⟩ => ⟨?_, hb⟩
  have h2 := hp.both
  rw [h] at h2
  cases b with
  | true => exact h2
  | false => rw [hL rfl]; exact h2
theorem split_letters (s : ByteArray) : ∃ (L : List Rw) (b : Bool), splitA s = (if b = true then some L else none) ∧ (b = false → L = []) ∧ (∀ r ∈ L, r.v.size ≤ s.size) ∧ L.length * 3 ≤ s.size := by
  have hf := splitA_fits s
  cases h : splitA s with
  | none => exact ⟨[], false, by simp, fun _ => rfl, fun r hr => (by cases hr), by simp⟩
  | some L =>
    rw [h] at hf
    exact ⟨L, true, by simp, fun h => (by cases h), hf.1, hf.2⟩
theorem grown_setCells (b : Nat) : ∀ (vs : List Value) (o : Nat) (w : World), w.grownBy (w.setCells b o vs) (some b)
  | [], o, w => grown_of_below (Below.refl _ _) _
  | v :: r, o, w => grown_trans (grown_setCell w ⟨b, o, none⟩ v) (grown_setCells b r (o + 1) _)
/-- the block of a list of one's own, whose elements may be stored over -/
theorem OwnM.there {w : World} {base n C : Nat} {e : TypeId} {v : Value} {xs : List Value} (h : OwnM w base e C v n xs) (hn : 0 < n) : ∃ g cap, v = .slice (some ⟨g, 0, none⟩) n cap ∧ base ≤ g ∧ g < w.heap.size ∧ n ≤ cap ∧ cap ≤ maxLen ∧ w.there g 0 (n * C) := by
  obtain ⟨g, cap, hv, hb, hg, h1, h2, hc, hf⟩ := OwnM.cells h hn
  refine ⟨g, cap, hv, hb, hg, h1, h2, fun j hj => ?_⟩
  have hl : j < xs.length := by rw [h.1]; exact hj
  rw [Nat.zero_add]
  exact ⟨by rw [hc j xs[j] (List.getElem?_eq_getElem hl)]; rfl, hf j hj⟩
theorem there_part {w : World} {g n C k : Nat} (h : w.there g 0 (n * C)) (hk : k < n) : w.there g (k * C) C := fun j hj => by
  have h2 : k * C + C ≤ n * C := by rw [← Nat.succ_mul]; exact Nat.mul_le_mul_right C hk
  have := h (k * C + j) (by omega)
  rwa [Nat.zero_add] at this
end Go.Proofs.YtkcojblflebomaaGreat
