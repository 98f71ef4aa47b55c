/-
  Several texts in one.
-/
import Derived.Test.YtkcojblflebomaaGreatNR17
import Derived.Shelf.SlSortCmp.NoneTotal
import Derived.Shelf.SlicesE.Compact
set_option linter.unusedVariables false
set_option linter.unusedSimpArgs false
namespace Go.Proofs.YtkcojblflebomaaGreat
open Go.RowKit Go.MapKept Go.Shelf
open Go.Lib hiding intOf
open Go.Sort hiding Below

/-- values stored one behind the other -/
def setL : List Value → Nat → List Value → List Value
  | xs, _, [] => xs
  | xs, o, v :: r => setL (xs.set o v) (o + 1) r
theorem setL_len : ∀ (vs xs : List Value) (o : Nat), (setL xs o vs).length = xs.length
  | [], _, _ => rfl
  | v :: r, xs, o => by
    unfold setL
    rw [setL_len r, List.length_set]
theorem setL_out : ∀ (vs xs : List Value) (o k : Nat), (k < o ∨ o + vs.length ≤ k) → (setL xs o vs)[k]? = xs[k]?
  | [], _, _, _, _ => rfl
  | v :: r, xs, o, k, h => by
    rw [List.length_cons] at h
    unfold setL
    rw [setL_out r _ _ _ (by omega), List.getElem?_set_ne (by omega)]
theorem setL_in : ∀ (vs xs : List Value) (o k : Nat), k < vs.length → o + vs.length ≤ xs.length → (setL xs o vs)[o + k]? = vs[k]?
  | [], _, _, _, h, _ => by cases h
  | v :: r, xs, o, 0, h, h2 => by
    rw [List.length_cons] at h2
    unfold setL
    rw [setL_out r _ _ _ (by omega), Nat.add_zero, List.getElem?_set_self (by omega)]
    rfl
  | v :: r, xs, o, k + 1, h, h2 => by
    rw [List.length_cons] at h h2
    unfold setL
    rw [show o + (k + 1) = (o + 1) + k by omega, setL_in r _ _ _ (by omega) (by rw [List.length_set]; omega)]
    rfl
theorem setL_take (vs xs : List Value) (o m : Nat) (h : m ≤ o) : (setL xs o vs).take m = xs.take m := by
  apply List.ext_getElem?
  intro i
  rw [List.getElem?_take, List.getElem?_take]
  split
  · rw [setL_out _ _ _ _ (by omega)]
  · rfl
theorem OwnM.setMany {base n C g cap : Nat} {e : TypeId} : ∀ (vs : List Value) (o : Nat) (w : World) (xs : List Value), OwnM w base e C (.slice (some ⟨g, 0, none⟩) n cap) n xs → o + vs.length ≤ n * C → OwnM (w.setCells g o vs) base e C (.slice (some ⟨g, 0, none⟩) n cap) n (setL xs o vs)
  | [], _, _, _, h, _ => h
  | v :: r, o, w, xs, h, hl => by
    rw [List.length_cons] at hl
    exact OwnM.setMany r (o + 1) _ _ (h.setIn v (by omega)) (by omega)
theorem OwnM.cut {w : World} {base n C g cap : Nat} {e : TypeId} {xs : List Value} (h : OwnM w base e C (.slice (some ⟨g, 0, none⟩) n cap) n xs) {m : Nat} (hm : m ≤ n) : OwnM w base e C (.slice (some ⟨g, 0, none⟩) m cap) m (xs.take (m * C)) := by
  have hmc : m * C ≤ n * C := Nat.mul_le_mul_right _ hm
  refine ⟨by rw [List.length_take, h.1]; omega, ?_⟩
  rcases h.2 with ⟨h1, _⟩ | ⟨g2, cap2, cur, fr, hv, hb, hg, hf, hn, hmx, hs, ht⟩
  · cases h1
  · injection hv with e1 e2 e3
    injection e1 with e1
    injection e1 with e1 _ _
    subst e1
    subst e3
    exact .inr ⟨g, cap, cur, fr, rfl, hb, hg, hf, by omega, hmx, hs, by rw [← ht, List.take_take]; congr 1; omega⟩
theorem flat_take {α : Type} {F : α → List Value} {C : Nat} (hF : ∀ a, (F a).length = C) : ∀ (xs : List α) (k : Nat), (xs.flatMap F).take (k * C) = (xs.take k).flatMap F
  | [], k => by simp
  | a :: r, 0 => by simp
  | a :: r, k + 1 => by
    rw [List.flatMap_cons, List.take_succ_cons, List.flatMap_cons, List.take_append, hF, show (k + 1) * C - C = k * C by rw [Nat.succ_mul]; omega, flat_take hF r k, List.take_of_length_le (by rw [hF, Nat.succ_mul]; omega)]
theorem flat_at' {α : Type} {F : α → List Value} {C : Nat} (hF : ∀ a, (F a).length = C) (xs : List α) (i j : Nat) (hi : i < xs.length) (hj : j < C) : (xs.flatMap F)[i * C + j]? = (F xs[i])[j]? := by
  have hl : j < (F xs[i]).length := by rw [hF]; exact hj
  rw [List.getElem?_eq_getElem hl]
  exact flat_at hF xs i xs[i] j _ (List.getElem?_eq_getElem hi) (List.getElem?_eq_getElem hl)
theorem flat_setL {α : Type} {F : α → List Value} {C : Nat} (hC : 0 < C) (hF : ∀ a, (F a).length = C) (xs : List α) (k : Nat) (y : α) (hk : k < xs.length) : setL (xs.flatMap F) (k * C) (F y) = (xs.set k y).flatMap F := by
  have hb : k * C + C ≤ xs.length * C := by
    have := Nat.mul_le_mul_right C (show k + 1 ≤ xs.length by omega)
    rwa [Nat.succ_mul] at this
  have hl : (xs.flatMap F).length = xs.length * C := flat_len hF xs
  apply List.ext_getElem?
  intro t
  by_cases ht : t < xs.length * C
  · have hq : t / C < xs.length := by rwa [Nat.div_lt_iff_lt_mul hC]
    have hr : t % C < C := Nat.mod_lt _ hC
    have ht2 : t = t / C * C + t % C := by rw [Nat.mul_comm]; exact (Nat.div_add_mod t C).symm
    have hR := flat_at' hF (xs.set k y) (t / C) (t % C) (by rw [List.length_set]; exact hq) hr
    by_cases hin : t / C = k
    · rw [← ht2] at hR
      rw [hR]
      have h1 := setL_in (F y) (xs.flatMap F) (k * C) (t % C) (by rw [hF]; exact hr) (by rw [hF, hl]; exact hb)
      rw [← hin, ← ht2] at h1
      rw [← hin, h1]
      simp
    · rw [← ht2] at hR
      rw [hR, setL_out _ _ _ _ (by
        rw [hF]
        rcases Nat.lt_or_gt_of_ne hin with h | h
        · left
          have := Nat.mul_le_mul_right C (show t / C + 1 ≤ k by omega)
          rw [Nat.succ_mul] at this
          omega
        · right
          have := Nat.mul_le_mul_right C (show k + 1 ≤ t / C by omega)
          rw [Nat.succ_mul] at this
          omega)]
      have h2 := flat_at' hF xs (t / C) (t % C) hq hr
      rw [← ht2] at h2
      rw [h2, List.getElem_set_ne (by omega)]
  · rw [List.getElem?_eq_none (by rw [setL_len, hl]; omega), List.getElem?_eq_none (by rw [flat_len hF, List.length_set]; omega)]
theorem run_clear_k {P : Program} (w : World) (t e ty : TypeId) (z : Value) (ht : P.underlying t = some (.slice e)) (hv : ∀ w, (zeroValue e).run P w = .ok z w) (h1 : ∀ u ∈ z.cells, u.oneCell' = true) (hz : 0 < z.cells.size) (b o n c : Nat) (hn : 0 < n)
    (hc : ∀ j, j < n * z.cells.size → (w.cell? ⟨b, o + j, none⟩).isSome = true) (hf : ∀ j, j < n * z.cells.size → w.frozen? ⟨b, o + j, none⟩ = false) :
    (Builtin.clear_ #[t] ty #[.slice (some ⟨b, o, none⟩) n c]).run P w = .ok (.tuple #[]) (w.setCells b o (Builtin.zeroCells z.cells n).toList) := by
  have hl : (Builtin.zeroCells z.cells n).toList.length = n * z.cells.size := by simp [Builtin.zeroCells]
  have hst := run_storeCells_cells (P := P) b o (Builtin.zeroCells z.cells n).toList 0 w (by rw [hl]; simpa using hc) (by rw [hl]; simpa using hf) (by
    intro v hv'
    simp only [Builtin.zeroCells, Array.toList_map, List.mem_map] at hv'
    obtain ⟨i, _, rfl⟩ := hv'
    have hi : i % z.cells.size < z.cells.size := Nat.mod_lt _ hz
    rw [getElem!_pos z.cells _ hi]
    exact h1 _ (Array.getElem_mem hi))
  simp only [Nat.add_zero] at hst
  obtain ⟨m, rfl⟩ : ∃ m, n = m + 1 := ⟨n - 1, by omega⟩
  simp [Builtin.clear_, run_underlying ht, hv, hst]
theorem dd_take {α : Type} [DecidableEq α] (l : List α) (k : Nat) (x y : α) (hx : l[k]? = some x) (hy : l[k + 1]? = some y) : dd (l.take (k + 2)) = if y = x then dd (l.take (k + 1)) else dd (l.take (k + 1)) ++ [y] := by
  have h1 : l.take (k + 1) = l.take k ++ [x] := by rw [List.take_add_one, hx]; rfl
  have h2 : l.take (k + 2) = l.take k ++ [x, y] := by rw [List.take_add_one, hy, h1]; simp
  rw [h2, h1, dd_snoc]
/-- what the second loop of slices.Compact holds: p places have been looked at, k are kept -/
structure Cmp {α : Type} [DecidableEq α] (l cur : List α) (p k : Nat) : Prop where
  len : cur.length = l.length
  kept : cur.take k = dd (l.take p)
  k1 : k < p
  rest : ∀ j, p ≤ j + 1 → cur[j]? = l[j]?
theorem Cmp.klen {α : Type} [DecidableEq α] {l cur : List α} {p k : Nat} (h : Cmp l cur p k) (hp : p ≤ l.length) : (dd (l.take p)).length = k := by
  rw [← h.kept, List.length_take, h.len]
  have := h.k1
  omega
theorem Cmp.start {α : Type} [DecidableEq α] {l : List α} {k : Nat} {x : α} (h : dd (l.take (k + 1)) = l.take (k + 1)) (hx : l[k]? = some x) (hy : l[k + 1]? = some x) : Cmp l l (k + 2) (k + 1) :=
  ⟨rfl, by rw [dd_take l k x x hx hy, if_pos rfl, h], by omega, fun _ _ => rfl⟩
theorem Cmp.skip {α : Type} [DecidableEq α] {l cur : List α} {p k : Nat} {x : α} (h : Cmp l cur (p + 1) k) (hx : l[p]? = some x) (hy : l[p + 1]? = some x) : Cmp l cur (p + 2) k :=
  ⟨h.len, by rw [dd_take l p x x hx hy, if_pos rfl, h.kept], by have := h.k1; omega, fun j hj => h.rest j (by omega)⟩
theorem Cmp.keep {α : Type} [DecidableEq α] {l cur : List α} {p k : Nat} {x y : α} (h : Cmp l cur (p + 1) k) (hx : l[p]? = some x) (hy : l[p + 1]? = some y) (hne : ¬ y = x) : Cmp l (cur.set k y) (p + 2) (k + 1) := by
  have hp : p + 1 < l.length := (List.getElem?_eq_some_iff.1 hy).1
  have hk : k < cur.length := by have := h.k1; rw [h.len]; omega
  refine ⟨by rw [List.length_set]; exact h.len, ?_, by have := h.k1; omega, fun j hj => ?_⟩
  · rw [dd_take l p x y hx hy, if_neg hne, ← h.kept, List.take_add_one, List.take_set, List.set_eq_of_length_le (by rw [List.length_take]; omega), List.getElem?_set_self hk]
    rfl
  · rw [List.getElem?_set_ne (by have := h.k1; omega)]
    exact h.rest j (by omega)
theorem Cmp.fin {α : Type} [DecidableEq α] {l cur : List α} {k : Nat} (h : Cmp l cur l.length k) : cur.take k = dd l ∧ (dd l).length = k := by
  have h1 := h.kept
  have h2 := h.klen (Nat.le_refl _)
  rw [List.take_length] at h1 h2
  exact ⟨h1, h2⟩
/-- a row turned whole -/
theorem OwnM.put {β : Type} [Inhabited β] {w : World} {base n C g cap : Nat} {e : TypeId} {xs ys : List Value} (enc : β → Value) (d : Array β) (h : OwnM w base e C (.slice (some ⟨g, 0, none⟩) n cap) n xs) (hn : 0 < n) (hd : d.size = n * C) (q : Nat) (os : Array Obj) (m : Nat) (hm : m ≤ n) (hy : (d.toList.map enc).take (m * C) = ys) :
    OwnM (grow (putRow enc (Go.Sort.ahead w q) g 0 d) os) base e C (.slice (some ⟨g, 0, none⟩) m cap) m ys ∧ w.grownBy (grow (putRow enc (Go.Sort.ahead w q) g 0 d) os) (some g) := by
  have hmc : m * C ≤ n * C := Nat.mul_le_mul_right _ hm
  rcases h.2 with ⟨h1, _⟩ | ⟨g2, cap2, cur, fr, hv, hb, hg, hf, hnc, hmx, hs, ht⟩
  · cases h1
  · injection hv with e1 e2 e3
    injection e1 with e1
    injection e1 with e1 _ _
    subst e1
    subst e3
    have hgs : g < w.heap.size := (Array.getElem?_eq_some_iff.1 hg).1
    have hblock : (grow (putRow enc (Go.Sort.ahead w q) g 0 d) os).heap[g]? = some (.cells (putCells enc 0 d cur) e fr) := by
      unfold grow putRow mapBlock Go.Sort.ahead
      simp only
      rw [Array.getElem?_append_left (by simpa using hgs), Array.getElem?_modify, if_pos rfl, hg]
      rfl
    have hcap : n * C ≤ cap * C := Nat.mul_le_mul_right _ hnc
    refine ⟨⟨by rw [← hy, List.length_take, List.length_map, Array.length_toList, hd]; omega, .inr ⟨g, cap, _, fr, rfl, hb, hblock, ?_, by omega, hmx, by simp [putCells, hs], ?_⟩⟩, rfl, rfl, rfl, ?_, fun i hi hx => ?_⟩
    · simpa [putCells] using hf
    · rw [← hy]
      apply List.ext_getElem?
      intro j
      rw [List.getElem?_take, List.getElem?_take]
      split
      · rename_i hj
        have hjc : j < cur.size := by omega
        have hjd : j < d.size := by omega
        rw [List.getElem?_eq_getElem (by simpa [putCells] using hjc), List.getElem?_eq_getElem (by simpa using hjd)]
        simp only [putCells, Array.getElem_toList, Array.getElem_mapIdx, Nat.zero_le, Nat.zero_add, hjd, and_self, if_true, Nat.sub_zero, List.getElem_map]
        rw [getElem!_pos _ j hjd]
      · rfl
    · unfold grow putRow mapBlock Go.Sort.ahead
      simp
    · unfold grow putRow mapBlock Go.Sort.ahead
      simp only
      rw [Array.getElem?_append_left (by simpa using hi), Array.getElem?_modify, if_neg (fun e => hx (by rw [e]))]
theorem OwnM.holds {β : Type} [Inhabited β] {w : World} {base n C g cap : Nat} {e : TypeId} {xs : List Value} (enc : β → Value) (d : Array β) (h : OwnM w base e C (.slice (some ⟨g, 0, none⟩) n cap) n xs) (hn : 0 < n) (hd : d.toList.map enc = xs) : Holds enc w g 0 d := by
  obtain ⟨g', cap', hv, hb, hg, hnc, hc, hcell, hfr⟩ := OwnM.cells h hn
  simp only [Value.slice.injEq, Option.some.injEq, Addr.mk.injEq] at hv
  obtain ⟨⟨rfl, _⟩, _, rfl⟩ := hv
  have hlen : d.size = n * C := by rw [← h.1, ← hd]; simp
  intro j hj
  rw [getElem!_pos _ j hj, Nat.zero_add]
  refine ⟨hcell j _ ?_, hfr j (by omega)⟩
  rw [← hd, List.getElem?_map, List.getElem?_eq_getElem (by simpa using hj)]
  rfl
theorem flatK_list {β : Type} [Inhabited β] (F : β → List Value) (C : Nat) (hC : 0 < C) (hF : ∀ a, (F a).length = C) (d : Array β) : (flatK F C d).toList = d.toList.flatMap F := by
  apply List.ext_getElem?
  intro t
  by_cases ht : t < d.size * C
  · have hq : t / C < d.size := by rwa [Nat.div_lt_iff_lt_mul hC]
    have hr : t % C < C := Nat.mod_lt _ hC
    have ht2 : t = t / C * C + t % C := by rw [Nat.mul_comm]; exact (Nat.div_add_mod t C).symm
    have h2 := flat_at' hF d.toList (t / C) (t % C) (by simpa using hq) hr
    rw [← ht2] at h2
    rw [h2]
    have h3 := get_flatK F C d t ht
    have h4 : t < (flatK F C d).size := by simpa using ht
    rw [getElem!_pos _ t h4, getElem!_pos d _ hq] at h3
    rw [List.getElem?_eq_getElem (by simpa using h4)]
    simp only [Array.getElem_toList]
    rw [h3]
    have h5 : t % C < (F d[t / C]).length := by rw [hF]; exact hr
    rw [getElem!_pos (F d[t / C]) _ h5, List.getElem?_eq_getElem h5]
  · rw [List.getElem?_eq_none (by simp; omega), List.getElem?_eq_none (by rw [flat_len hF]; simp; omega)]
/-- the library's word on slices.Compact -/
theorem compact_dd {α : Type} [Inhabited α] [DecidableEq α] (l : List α) : ∀ m, m ≤ l.length → compactUpTo l.toArray m = dd (l.take m)
  | 0, _ => by simp [compactUpTo]; rfl
  | 1, h => by
    obtain ⟨a, r, rfl⟩ : ∃ a r, l = a :: r := by
      cases l with
      | nil => simp at h
      | cons a r => exact ⟨a, r, rfl⟩
    rw [compactUpTo_succ]
    simp [compactUpTo, keeps, dd]
  | m + 2, h => by
    have ih := compact_dd l (m + 1) (by omega)
    have hx : l[m]? = some l[m] := List.getElem?_eq_getElem (by omega)
    have hy : l[m + 1]? = some l[m + 1] := List.getElem?_eq_getElem (by omega)
    have e1 : l.toArray[m + 1]! = l[m + 1] := by rw [getElem!_pos _ _ (by simp; omega)]; simp
    have e2 : l.toArray[m]! = l[m] := by rw [getElem!_pos _ _ (by simp; omega)]; simp
    rw [compactUpTo_succ, ih, dd_take l m _ _ hx hy]
    by_cases hk : l[m + 1] = l[m]
    · rw [if_pos hk, keeps_neg (by omega) (by rw [e1, show m + 1 - 1 = m by omega, e2]; exact hk)]
      simp
    · rw [if_neg hk, keeps_pos (by rw [e1, show m + 1 - 1 = m by omega, e2]; exact hk), if_pos rfl, e1]
end Go.Proofs.YtkcojblflebomaaGreat
