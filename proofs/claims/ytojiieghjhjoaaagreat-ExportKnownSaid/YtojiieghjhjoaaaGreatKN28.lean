/-
  Several texts in one.
-/
import Derived.Test.YtojiieghjhjoaaaGreatKN27
import Derived.Shelf.Spec.SlicesInsert
import Derived.Lib.AppendZerosOnto
set_option linter.unusedVariables false
set_option linter.unusedSimpArgs false
namespace Go.Proofs.YtojiieghjhjoaaaGreat
open Go.RowKit Go.MapKept Go.Shelf
open Go.Lib hiding intOf

/-- values stored one behind the other -/
def setL : List Value → Nat → List Value → List Value
  | xs, _, [] => xs
  | xs, o, v :: r => setL (xs.set o v) (o + 1) r
theorem setL_len : ∀ (vs xs : List Value) (o : Nat), (setL xs o vs).length = xs.length
  | [], _, _ => rfl
  | v :: r, xs, o => by
    unfold setL
    rw [setL_len r, List.length_set]
theorem setL_out : ∀ (vs xs : List Value) (o k : Nat), (k < o ∨ o + vs.length ≤ k) → (setL xs o vs)[k]? = xs[k]?
  | [], _, _, _, _ => rfl
  | v :: r, xs, o, k, h => by
    rw [List.length_cons] at h
    unfold setL
    rw [setL_out r _ _ _ (by omega), List.getElem?_set_ne (by omega)]
theorem setL_in : ∀ (vs xs : List Value) (o k : Nat), k < vs.length → o + vs.length ≤ xs.length → (setL xs o vs)[o + k]? = vs[k]?
  | [], _, _, _, h, _ => by cases h
  | v :: r, xs, o, 0, h, h2 => by
    rw [List.length_cons] at h2
    unfold setL
    rw [setL_out r _ _ _ (by omega), Nat.add_zero, List.getElem?_set_self (by omega)]
    rfl
  | v :: r, xs, o, k + 1, h, h2 => by
    rw [List.length_cons] at h h2
    unfold setL
    rw [show o + (k + 1) = (o + 1) + k by omega, setL_in r _ _ _ (by omega) (by rw [List.length_set]; omega)]
    rfl
theorem setL_take (vs xs : List Value) (o m : Nat) (h : m ≤ o) : (setL xs o vs).take m = xs.take m := by
  apply List.ext_getElem?
  intro i
  rw [List.getElem?_take, List.getElem?_take]
  split
  · rw [setL_out _ _ _ _ (by omega)]
  · rfl
theorem OwnM.setMany {base n C g cap : Nat} {e : TypeId} : ∀ (vs : List Value) (o : Nat) (w : World) (xs : List Value), OwnM w base e C (.slice (some ⟨g, 0, none⟩) n cap) n xs → o + vs.length ≤ n * C → OwnM (w.setCells g o vs) base e C (.slice (some ⟨g, 0, none⟩) n cap) n (setL xs o vs)
  | [], _, _, _, h, _ => h
  | v :: r, o, w, xs, h, hl => by
    rw [List.length_cons] at hl
    exact OwnM.setMany r (o + 1) _ _ (h.setIn v (by omega)) (by omega)
theorem OwnM.cut {w : World} {base n C g cap : Nat} {e : TypeId} {xs : List Value} (h : OwnM w base e C (.slice (some ⟨g, 0, none⟩) n cap) n xs) {m : Nat} (hm : m ≤ n) : OwnM w base e C (.slice (some ⟨g, 0, none⟩) m cap) m (xs.take (m * C)) := by
  have hmc : m * C ≤ n * C := Nat.mul_le_mul_right _ hm
  refine ⟨by rw [List.length_take, h.1]; omega, ?_⟩
  rcases h.2 with ⟨h1, _⟩ | ⟨g2, cap2, cur, fr, hv, hb, hg, hf, hn, hmx, hs, ht⟩
  · cases h1
  · injection hv with e1 e2 e3
    injection e1 with e1
    injection e1 with e1 _ _
    subst e1
    subst e3
    exact .inr ⟨g, cap, cur, fr, rfl, hb, hg, hf, by omega, hmx, hs, by rw [← ht, List.take_take]; congr 1; omega⟩
theorem flat_take {α : Type} {F : α → List Value} {C : Nat} (hF : ∀ a, (F a).length = C) : ∀ (xs : List α) (k : Nat), (xs.flatMap F).take (k * C) = (xs.take k).flatMap F
  | [], k => by simp
  | a :: r, 0 => by simp
  | a :: r, k + 1 => by
    rw [List.flatMap_cons, List.take_succ_cons, List.flatMap_cons, List.take_append, hF, show (k + 1) * C - C = k * C by rw [Nat.succ_mul]; omega, flat_take hF r k, List.take_of_length_le (by rw [hF, Nat.succ_mul]; omega)]
theorem flat_at' {α : Type} {F : α → List Value} {C : Nat} (hF : ∀ a, (F a).length = C) (xs : List α) (i j : Nat) (hi : i < xs.length) (hj : j < C) : (xs.flatMap F)[i * C + j]? = (F xs[i])[j]? := by
  have hl : j < (F xs[i]).length := by rw [hF]; exact hj
  rw [List.getElem?_eq_getElem hl]
  exact flat_at hF xs i xs[i] j _ (List.getElem?_eq_getElem hi) (List.getElem?_eq_getElem hl)
theorem flat_setL {α : Type} {F : α → List Value} {C : Nat} (hC : 0 < C) (hF : ∀ a, (F a).length = C) (xs : List α) (k : Nat) (y : α) (hk : k < xs.length) : setL (xs.flatMap F) (k * C) (F y) = (xs.set k y).flatMap F := by
  have hb : k * C + C ≤ xs.length * C := by
    have := Nat.mul_le_mul_right C (show k + 1 ≤ xs.length by omega)
    rwa [Nat.succ_mul] at this
  have hl : (xs.flatMap F).length = xs.length * C := flat_len hF xs
  apply List.ext_getElem?
  intro t
  by_cases ht : t < xs.length * C
  · have hq : t / C < xs.length := by rwa [Nat.div_lt_iff_lt_mul hC]
    have hr : t % C < C := Nat.mod_lt _ hC
    have ht2 : t = t / C * C + t % C := by rw [Nat.mul_comm]; exact (Nat.div_add_mod t C).symm
    have hR := flat_at' hF (xs.set k y) (t / C) (t % C) (by rw [List.length_set]; exact hq) hr
    by_cases hin : t / C = k
    · rw [← ht2] at hR
      rw [hR]
      have h1 := setL_in (F y) (xs.flatMap F) (k * C) (t % C) (by rw [hF]; exact hr) (by rw [hF, hl]; exact hb)
      rw [← hin, ← ht2] at h1
      rw [← hin, h1]
      simp
    · rw [← ht2] at hR
      rw [hR, setL_out _ _ _ _ (by
        rw [hF]
        rcases Nat.lt_or_gt_of_ne hin with h | h
        · left
          have := Nat.mul_le_mul_right C (show t / C + 1 ≤ k by omega)
          rw [Nat.succ_mul] at this
          omega
        · right
          have := Nat.mul_le_mul_right C (show k + 1 ≤ t / C by omega)
          rw [Nat.succ_mul] at this
          omega)]
      have h2 := flat_at' hF xs (t / C) (t % C) hq hr
      rw [← ht2] at h2
      rw [h2, List.getElem_set_ne (by omega)]
  · rw [List.getElem?_eq_none (by rw [setL_len, hl]; omega), List.getElem?_eq_none (by rw [flat_len hF, List.length_set]; omega)]
theorem run_clear_k {P : Program} (w : World) (t e ty : TypeId) (z : Value) (ht : P.underlying t = some (.slice e)) (hv : ∀ w, (zeroValue e).run P w = .ok z w) (h1 : ∀ u ∈ z.cells, u.oneCell' = true) (hz : 0 < z.cells.size) (b o n c : Nat) (hn : 0 < n)
    (hc : ∀ j, j < n * z.cells.size → (w.cell? ⟨b, o + j, none⟩).isSome = true) (hf : ∀ j, j < n * z.cells.size → w.frozen? ⟨b, o + j, none⟩ = false) :
    (Builtin.clear_ #[t] ty #[.slice (some ⟨b, o, none⟩) n c]).run P w = .ok (.tuple #[]) (w.setCells b o (Builtin.zeroCells z.cells n).toList) := by
  have hl : (Builtin.zeroCells z.cells n).toList.length = n * z.cells.size := by simp [Builtin.zeroCells]
  have hst := run_storeCells_cells (P := P) b o (Builtin.zeroCells z.cells n).toList 0 w (by rw [hl]; simpa using hc) (by rw [hl]; simpa using hf) (by
    intro v hv'
    simp only [Builtin.zeroCells, Array.toList_map, List.mem_map] at hv'
    obtain ⟨i, _, rfl⟩ := hv'
    have hi : i % z.cells.size < z.cells.size := Nat.mod_lt _ hz
    rw [getElem!_pos z.cells _ hi]
    exact h1 _ (Array.getElem_mem hi))
  simp only [Nat.add_zero] at hst
  obtain ⟨m, rfl⟩ : ∃ m, n = m + 1 := ⟨n - 1, by omega⟩
  simp [Builtin.clear_, run_underlying ht, hv, hst]
theorem setL_front (vs xs ys : List Value) (h : ys.length = vs.length + xs.length) : setL (setL ys vs.length xs) 0 vs = vs ++ xs := by
  apply List.ext_getElem?
  intro i
  by_cases h1 : i < vs.length
  · have := setL_in vs (setL ys vs.length xs) 0 i h1 (by rw [setL_len]; omega)
    rw [Nat.zero_add] at this
    rw [this, List.getElem?_append_left h1]
  · rw [setL_out _ _ _ _ (by omega), List.getElem?_append_right (by omega)]
    by_cases h2 : i < vs.length + xs.length
    · have := setL_in xs ys vs.length (i - vs.length) (by omega) (by omega)
      rwa [show vs.length + (i - vs.length) = i by omega] at this
    · rw [setL_out _ _ _ _ (by omega), List.getElem?_eq_none (by omega), List.getElem?_eq_none (by omega)]
theorem setL_back (vs xs ys : List Value) (h : ys.length = vs.length + xs.length) : setL (setL ys 0 vs) vs.length xs = vs ++ xs := by
  apply List.ext_getElem?
  intro i
  by_cases h1 : i < vs.length
  · rw [setL_out _ _ _ _ (by omega), List.getElem?_append_left h1]
    have := setL_in vs ys 0 i h1 (by omega)
    rwa [Nat.zero_add] at this
  · rw [List.getElem?_append_right (by omega)]
    by_cases h2 : i < vs.length + xs.length
    · have := setL_in xs (setL ys 0 vs) vs.length (i - vs.length) (by omega) (by rw [setL_len]; omega)
      rwa [show vs.length + (i - vs.length) = i by omega] at this
    · rw [setL_out _ _ _ _ (by omega), setL_out _ _ _ _ (by omega), List.getElem?_eq_none (by omega), List.getElem?_eq_none (by omega)]
/-- more of the block is taken -/
theorem OwnM.widen {w : World} {base n C g cap : Nat} {e : TypeId} {xs : List Value} (h : OwnM w base e C (.slice (some ⟨g, 0, none⟩) n cap) n xs) {m : Nat} (hm : m ≤ cap) (hn : n ≤ m) : ∃ ys, OwnM w base e C (.slice (some ⟨g, 0, none⟩) m cap) m ys := by
  rcases h.2 with ⟨h1, _⟩ | ⟨g2, cap2, cur, fr, hv, hb, hg, hf, hnc, hmx, hs, ht⟩
  · cases h1
  · injection hv with e1 e2 e3
    injection e1 with e1
    injection e1 with e1 _ _
    subst e1
    subst e3
    have hmc : m * C ≤ cap * C := Nat.mul_le_mul_right _ hm
    exact ⟨cur.toList.take (m * C), by rw [List.length_take, Array.length_toList, hs]; omega, .inr ⟨g, cap, cur, fr, rfl, hb, hg, hf, hm, hmx, hs, rfl⟩⟩
/-- a new block, of which a part is taken -/
theorem OwnM.newCap {w : World} {base b n c C : Nat} {T : TypeId} {cs : Array Value} (h : CellsAt w b cs T) (hb : base ≤ b) (hs : cs.size = c * C) (hn : n ≤ c) (hm : c ≤ maxLen) : OwnM w base T C (.slice (some ⟨b, 0, none⟩) n c) n (cs.toList.take (n * C)) := by
  have hmc : n * C ≤ c * C := Nat.mul_le_mul_right _ hn
  exact ⟨by rw [List.length_take, Array.length_toList, hs]; omega, .inr ⟨b, c, cs, (0, 0), rfl, hb, h, .inl (Nat.le_refl _), hn, hm, hs, rfl⟩⟩
/-- its cells are there, and may be stored over -/
theorem OwnM.there' {w : World} {base n C g cap : Nat} {e : TypeId} {xs : List Value} (h : OwnM w base e C (.slice (some ⟨g, 0, none⟩) n cap) n xs) : (∀ j, j < n * C → (w.cell? ⟨g, j, none⟩).isSome = true) ∧ (∀ j, j < n * C → w.frozen? ⟨g, j, none⟩ = false) := by
  by_cases hn : 0 < n
  · obtain ⟨g2, cap2, hv, _, _, _, _, hc, hf⟩ := OwnM.cells h hn
    injection hv with e1 e2 e3
    injection e1 with e1
    injection e1 with e1 _ _
    subst e1
    refine ⟨fun j hj => ?_, hf⟩
    have hl : j < xs.length := by rw [h.1]; exact hj
    rw [hc j _ (List.getElem?_eq_getElem hl)]
    rfl
  · have : n = 0 := by omega
    subst this
    exact ⟨fun j hj => by omega, fun j hj => by omega⟩
theorem shape_own {w : World} {base n C g cap : Nat} {e : TypeId} {xs : List Value} (h : OwnM w base e C (.slice (some ⟨g, 0, none⟩) n cap) n xs) : w.shape? g = some (e, cap * C) := by
  rcases h.2 with ⟨h1, _⟩ | ⟨g2, cap2, cur, fr, hv, hb, hg, hf, hnc, hmx, hs, ht⟩
  · cases h1
  · injection hv with e1 e2 e3
    injection e1 with e1
    injection e1 with e1 _ _
    subst e1
    subst e3
    unfold World.shape?
    rw [hg, ← hs]
theorem CellsAt.shape {w : World} {b : Nat} {cs : Array Value} {T : TypeId} (h : CellsAt w b cs T) : w.shape? b = some (T, cs.size) := by
  unfold World.shape?
  rw [show w.heap[b]? = _ from h]
/-- a copy of elements of C cells -/
theorem run_copy_k {P : Program} (w : World) (dT sT ty elem : TypeId) (b o dLen dCap : Nat) (a : Addr) (sLen sCap : Nat) (cs : List Value) (C : Nat)
    (hu : P.underlying dT = some (.slice elem)) (hs : (P.info? elem).map (·.size) = some C) (hn : cs.length = Nat.min sLen dLen * C)
    (hsrc : ∀ j v, cs[j]? = some v → w.cell? (a.add j) = some v) (hc : ∀ j, j < cs.length → (w.cell? ⟨b, o + j, none⟩).isSome = true) (hf : ∀ j, j < cs.length → w.frozen? ⟨b, o + j, none⟩ = false) (h1 : ∀ v ∈ cs, v.oneCell' = true) :
    (Builtin.copy_ #[dT, sT] ty #[.slice (some ⟨b, o, none⟩) dLen dCap, .slice (some a) sLen sCap]).run P w = .ok (goInt (Nat.min sLen dLen)) (w.setCells b o cs) := by
  have hl := run_loadCells_list (P := P) w a cs hsrc
  have hst := run_storeCells_cells (P := P) b o cs 0 w (by simpa using hc) (by simpa using hf) h1
  cases hq : P.info? elem with
  | none => simp [hq] at hs
  | some i =>
    have hi : i.size = C := by simpa [hq] using hs
    simp [Builtin.copy_, run_underlying hu, Builtin.lenOf, Builtin.firstCells, sizeOf, typeInfo, hq, hi, ← hn, hl, hst]
end Go.Proofs.YtojiieghjhjoaaaGreat
