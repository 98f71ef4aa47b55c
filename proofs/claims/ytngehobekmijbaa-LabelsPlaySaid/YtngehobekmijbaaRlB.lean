/-
  Labels: the reference's list of who has which. Conditions: sizes.
-/
import Derived.Test.YtngehobekmijbaaRlA
set_option linter.unusedVariables false
set_option linter.unusedSimpArgs false
namespace Go.Proofs.Ytngehobekmijbaa
open Go.RowKit Go.MapKept

/-- a list's cells -/
def heldV (M : List (LK × Nat)) : List Value := M.flatMap fun p => [.string p.1.vrf, .int .i64 p.1.fam, .int .u64 p.1.rd, .string p.1.addr, .int .i64 p.1.len, .int .u32 (p.2 : Nat)]
theorem heldV_length : ∀ M : List (LK × Nat), (heldV M).length = M.length * 6
  | [] => rfl
  | p :: M => by
    have ih := heldV_length M
    unfold heldV at ih ⊢
    rw [List.flatMap_cons, List.length_append, ih]
    simp only [List.length_cons, List.length_nil]
    omega
theorem heldV_append (M N : List (LK × Nat)) : heldV (M ++ N) = heldV M ++ heldV N := List.flatMap_append
theorem heldV_one : ∀ M : List (LK × Nat), ∀ u ∈ heldV M, u.oneCell' = true := fun M u h => by
  obtain ⟨p, _, hu⟩ := List.mem_flatMap.1 h
  simp only [List.mem_cons, List.not_mem_nil, or_false] at hu
  rcases hu with rfl | rfl | rfl | rfl | rfl | rfl <;> rfl
theorem heldV_at : ∀ (M : List (LK × Nat)) (i : Nat) (k : LK) (n : Nat), M[i]? = some (k, n) → ∀ j, j < 6 → (heldV M)[i * 6 + j]? = [Value.string k.vrf, .int .i64 k.fam, .int .u64 k.rd, .string k.addr, .int .i64 k.len, .int .u32 (n : Nat)][j]?
  | [], i, k, n, h, j, hj => by simp at h
  | p :: M, 0, k, n, h, j, hj => by
    simp only [List.getElem?_cons_zero, Option.some.injEq] at h
    subst h
    unfold heldV
    rw [List.flatMap_cons, List.getElem?_append_left (by simp; omega), Nat.zero_mul, Nat.zero_add]
  | p :: M, i + 1, k, n, h, j, hj => by
    have ih := heldV_at M i k n (by simpa using h) j hj
    unfold heldV at ih ⊢
    rw [List.flatMap_cons, List.getElem?_append_right (by simp; omega)]
    rw [← ih]
    congr 1
    simp only [List.length_cons, List.length_nil]
    omega
/-- the list as a slice of the reference -/
def Held (w : World) (base : Nat) (v : Value) (M : List (LK × Nat)) : Prop := OwnM w base 63 6 v M.length (heldV M)
theorem Held.at_ {w : World} {base i n : Nat} {v : Value} {M : List (LK × Nat)} {k : LK} (h : Held w base v M) (hi : M[i]? = some (k, n)) :
    ∃ g cap, v = .slice (some ⟨g, 0, none⟩) M.length cap ∧ base ≤ g ∧ g < w.heap.size ∧ M.length ≤ cap ∧ cap ≤ maxLen ∧ i < M.length ∧
      w.cell? ⟨g, i * 6, none⟩ = some (.string k.vrf) ∧ w.cell? ⟨g, i * 6 + 1, none⟩ = some (.int .i64 k.fam) ∧ w.cell? ⟨g, i * 6 + 2, none⟩ = some (.int .u64 k.rd) ∧ w.cell? ⟨g, i * 6 + 3, none⟩ = some (.string k.addr) ∧ w.cell? ⟨g, i * 6 + 4, none⟩ = some (.int .i64 k.len) ∧ w.cell? ⟨g, i * 6 + 5, none⟩ = some (.int .u32 (n : Nat)) := by
  have hl : i < M.length := (List.getElem?_eq_some_iff.1 hi).1
  obtain ⟨g, cap, hv, hb, hg, hn, hc, hcell, _⟩ := OwnM.cells h (by omega)
  have f := heldV_at M i k n hi
  exact ⟨g, cap, hv, hb, hg, hn, hc, hl, hcell _ _ (f 0 (by omega)), hcell _ _ (f 1 (by omega)), hcell _ _ (f 2 (by omega)), hcell _ _ (f 3 (by omega)), hcell _ _ (f 4 (by omega)), hcell _ _ (f 5 (by omega))⟩
end Go.Proofs.Ytngehobekmijbaa
