/-
  Own rows: cells laid anew in their midst; a copy within one row. Conditions: none.
-/
import Derived.Test.YthnjepehiddogaaTrE
set_option linter.unusedVariables false
set_option linter.unusedSimpArgs false
namespace Go.Proofs.Ythnjepehiddogaa
open Go.RowKit

theorem OwnM.seg {w : World} {base : Nat} {e : TypeId} {size g n cap o : Nat} {xs vs : List Value} (h : OwnM w base e size (.slice (some ⟨g, 0, none⟩) n cap) n xs) (ho : o + vs.length ≤ n * size) :
    ∃ cur fr, w.heap[g]? = some (.cells cur e fr) ∧ (fr.2 ≤ fr.1 ∨ cur.size ≤ fr.1) ∧ o + vs.length ≤ cur.size ∧ n * size ≤ cur.size ∧
      OwnM (w.setRow g (cur.toList.take o ++ vs ++ cur.toList.drop (o + vs.length)).toArray) base e size (.slice (some ⟨g, 0, none⟩) n cap) n (xs.take o ++ vs ++ xs.drop (o + vs.length)) := by
  have hlen := h.1
  rcases h.2 with ⟨h0, _⟩ | ⟨g', cap', cur, fr, hv, hb, hgg, hfr, hnc, hcm, hcs, htake⟩
  · cases h0
  · injection hv with h1 h2 h3
    injection h1 with h1
    injection h1 with h1
    subst h1; subst h3
    have hle : n * size ≤ cap * size := Nat.mul_le_mul_right _ hnc
    have hcl : cur.toList.length = cap * size := by simpa using hcs
    refine ⟨cur, fr, hgg, hfr, by omega, by omega, ?_, .inr ⟨g, cap, (cur.toList.take o ++ vs ++ cur.toList.drop (o + vs.length)).toArray, fr, rfl, hb, setRow_heap w g _ _ _ _ hgg, ?_, hnc, hcm, ?_, ?_⟩⟩
    · simp only [List.length_append, List.length_take, List.length_drop]
      omega
    · rcases hfr with h | h
      · exact .inl h
      · right
        simp only [List.size_toArray, List.length_append, List.length_take, List.length_drop]
        omega
    · simp only [List.size_toArray, List.length_append, List.length_take, List.length_drop]
      omega
    · rw [← htake]
      simp only [List.take_append, List.take_take, List.drop_take, List.length_take, List.length_append, hcl]
      rw [show min o (cap * size) = o by omega, show min o (n * size) = o by omega, List.take_of_length_le (show vs.length ≤ n * size - o by omega), show min (n * size) o = o by omega]
theorem grown_setRow {w : World} {g : Nat} {cur cs : Array Value} {e : TypeId} {fr : Nat × Nat} (h : w.heap[g]? = some (.cells cur e fr)) : w.grownBy (w.setRow g cs) (some g) :=
  ⟨rfl, rfl, rfl, by simp [World.setRow], fun i _ hk => setRow_other _ _ _ _ (fun e => hk (by rw [e]))⟩
/-- one cell laid anew -/
theorem OwnM.cellm {w : World} {base : Nat} {e : TypeId} {size g n cap j : Nat} {xs : List Value} (h : OwnM w base e size (.slice (some ⟨g, 0, none⟩) n cap) n xs) (hj : j < n * size) (u : Value) :
    OwnM (w.setCell ⟨g, j, none⟩ u) base e size (.slice (some ⟨g, 0, none⟩) n cap) n (xs.set j u) := by
  refine ⟨by simpa using h.1, ?_⟩
  rcases h.2 with ⟨h0, _⟩ | ⟨g', cap', cur, fr, hv, hb, hgg, hfr, hnc, hcm, hcs, htake⟩
  · cases h0
  · injection hv with h1 h2 h3
    injection h1 with h1
    injection h1 with h1
    subst h1; subst h3
    refine .inr ⟨g, cap, cur.setIfInBounds j u, fr, rfl, hb, ?_, by simpa using hfr, hnc, hcm, by simpa using hcs, ?_⟩
    · simp [World.setCell, Array.getElem?_modify, hgg]
    · rw [Array.toList_setIfInBounds, List.take_set, htake]
theorem OwnM.reads {w : World} {base : Nat} {e : TypeId} {size g n cap j : Nat} {xs : List Value} {u : Value} (h : OwnM w base e size (.slice (some ⟨g, 0, none⟩) n cap) n xs) (hu : xs[j]? = some u) :
    w.cell? ⟨g, j, none⟩ = some u ∧ w.frozen? ⟨g, j, none⟩ = false := by
  have hj : j < xs.length := (List.getElem?_eq_some_iff.1 hu).1
  rw [h.1] at hj
  have hn : 0 < n := by
    rcases Nat.eq_zero_or_pos n with h0 | h0
    · rw [h0] at hj
      omega
    · exact h0
  obtain ⟨g', cap', hv, _, _, _, _, hc, hf⟩ := h.cells hn
  injection hv with h1 h2 h3
  injection h1 with h1
  injection h1 with h1
  subst h1
  exact ⟨hc j u hu, hf j hj⟩
/-- copy within one own row: what lay from i on lies one element further on -/
theorem OwnM.shift {P : Program} {w : World} {base : Nat} {dT sT ty e : TypeId} {size g n cap i c1 c2 : Nat} {xs : List Value} (h : OwnM w base e size (.slice (some ⟨g, 0, none⟩) n cap) n xs) (hi : i < n) (h1 : ∀ u ∈ xs, u.oneCell' = true)
    (hu : P.underlying dT = some (.slice e)) (hs : (P.info? e).map (·.size) = some size) :
    ∃ w', (Builtin.copy_ #[dT, sT] ty #[.slice (some ⟨g, (i + 1) * size, none⟩) (n - (i + 1)) c1, .slice (some ⟨g, i * size, none⟩) (n - i) c2]).run P w = .ok (goInt ((n - (i + 1) : Nat) : Int)) w' ∧
      OwnM w' base e size (.slice (some ⟨g, 0, none⟩) n cap) n (xs.take ((i + 1) * size) ++ (xs.drop (i * size)).take ((n - (i + 1)) * size)) ∧ w.grownBy w' (some g) := by
  have hxl := h.1
  have e1 : (i + 1) * size = i * size + size := by rw [Nat.add_mul, Nat.one_mul]
  have e2 : (n - (i + 1)) * size + (i + 1) * size = n * size := by rw [← Nat.add_mul]; congr 1; omega
  have hvs : ((xs.drop (i * size)).take ((n - (i + 1)) * size)).length = (n - (i + 1)) * size := by
    rw [List.length_take, List.length_drop]
    omega
  obtain ⟨cur, fr, hg, hfr, hfit, hn, ho⟩ := OwnM.seg (o := (i + 1) * size) (vs := (xs.drop (i * size)).take ((n - (i + 1)) * size)) h (by rw [hvs]; omega)
  have hl := run_loadCells_list (P := P) w ⟨g, i * size, none⟩ ((xs.drop (i * size)).take ((n - (i + 1)) * size)) (fun j v hv => by
    rw [add_off]
    rw [List.getElem?_take] at hv
    split at hv
    · rw [List.getElem?_drop] at hv
      exact (h.reads hv).1
    · cases hv)
  have hst := run_storeCells_m (P := P) g ((i + 1) * size) e fr ((xs.drop (i * size)).take ((n - (i + 1)) * size)) 0 cur w hg (by rw [Nat.add_zero]; exact hfit) hfr (fun v hv => h1 v (List.mem_of_mem_drop (List.mem_of_mem_take hv)))
  refine ⟨w.setRow g (cur.toList.take ((i + 1) * size) ++ (xs.drop (i * size)).take ((n - (i + 1)) * size) ++ cur.toList.drop ((i + 1) * size + ((xs.drop (i * size)).take ((n - (i + 1)) * size)).length)).toArray, ?_, ?_, ?_⟩
  rotate_left
  · rw [List.drop_of_length_le (show xs.length ≤ (i + 1) * size + ((xs.drop (i * size)).take ((n - (i + 1)) * size)).length by rw [hvs]; omega), List.append_nil] at ho
    exact ho
  · exact grown_setRow hg
  · cases hq : P.info? e with
    | none => simp [hq] at hs
    | some k =>
      have hk : k.size = size := by simpa [hq] using hs
      have hmin : min (n - i) (n - (i + 1)) = n - (i + 1) := by omega
      rw [hvs] at hl
      simp [Builtin.copy_, run_underlying hu, Builtin.lenOf, Builtin.firstCells, sizeOf, typeInfo, hq, hk, hmin, hl, hst]
end Go.Proofs.Ythnjepehiddogaa
