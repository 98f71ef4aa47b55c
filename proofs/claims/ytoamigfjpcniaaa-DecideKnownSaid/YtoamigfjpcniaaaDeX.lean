/-
  Spots that came in. Conditions: none.
-/
import Derived.Test.YtoamigfjpcniaaaDeT
import Derived.Test.YtoamigfjpcniaaaOpenAny
set_option linter.unusedVariables false
set_option linter.unusedSimpArgs false
namespace Go.Proofs.Ytoamigfjpcniaaa
open Go.RowKit Go.MapKept
open Go.ChangeShapes Go.WideShapes Go.ChangeAt

def SpotCs (cs : List Value) : Prop := ∃ x : Spt, x.Ok ∧ cs = x.cs
theorem list9 {α : Type} {l : List α} (h : l.length = 9) : ∃ a b c d e f g h i, l = [a, b, c, d, e, f, g, h, i] := by
  match l, h with
  | [a, b, c, d, e, f, g, h, i], _ => exact ⟨a, b, c, d, e, f, g, h, i, rfl⟩
section
variable {H : Type} {enc : TypeId × Value → H} {w : World} {held : Bool} {base : Nat} {sp : Nat → Bool}
theorem spot_cs {n : Nat} {cs : List Value} {y : DataW H × List MemPlace} (h : DataW.trod enc Try.prog w base sp held n 75 cs = some y) : SpotCs cs := by
  obtain ⟨xs, m, rfl, _, hlen, hxl, hf⟩ := DataW.trod_struct Try.underlying75 h
  have hc1 : Try.prog.cellsOf 75 = 9 := by kernel_rfl
  have hc2 : Try.prog.cellsOf 5 = 1 := by kernel_rfl
  rw [hc1] at hlen
  obtain ⟨a, b, c, d, e, f, g, h9, i, rfl⟩ := list9 hlen
  have f0 := hf 0 _ rfl
  have f1 := hf 1 _ rfl
  have f2 := hf 2 _ rfl
  have f3 := hf 3 _ rfl
  have f4 := hf 4 _ rfl
  have f5 := hf 5 _ rfl
  have f6 := hf 6 _ rfl
  have f7 := hf 7 _ rfl
  have f8 := hf 8 _ rfl
  change DataW.trod enc Try.prog w base sp held m 5 (([a, b, c, d, e, f, g, h9, i].drop 0).take (Try.prog.cellsOf 5)) = xs[0]? at f0
  change DataW.trod enc Try.prog w base sp held m 5 (([a, b, c, d, e, f, g, h9, i].drop 1).take (Try.prog.cellsOf 5)) = xs[1]? at f1
  change DataW.trod enc Try.prog w base sp held m 5 (([a, b, c, d, e, f, g, h9, i].drop 2).take (Try.prog.cellsOf 5)) = xs[2]? at f2
  change DataW.trod enc Try.prog w base sp held m 5 (([a, b, c, d, e, f, g, h9, i].drop 3).take (Try.prog.cellsOf 5)) = xs[3]? at f3
  change DataW.trod enc Try.prog w base sp held m 5 (([a, b, c, d, e, f, g, h9, i].drop 4).take (Try.prog.cellsOf 5)) = xs[4]? at f4
  change DataW.trod enc Try.prog w base sp held m 5 (([a, b, c, d, e, f, g, h9, i].drop 5).take (Try.prog.cellsOf 5)) = xs[5]? at f5
  change DataW.trod enc Try.prog w base sp held m 5 (([a, b, c, d, e, f, g, h9, i].drop 6).take (Try.prog.cellsOf 5)) = xs[6]? at f6
  change DataW.trod enc Try.prog w base sp held m 5 (([a, b, c, d, e, f, g, h9, i].drop 7).take (Try.prog.cellsOf 5)) = xs[7]? at f7
  change DataW.trod enc Try.prog w base sp held m 5 (([a, b, c, d, e, f, g, h9, i].drop 8).take (Try.prog.cellsOf 5)) = xs[8]? at f8
  simp only [hc2, List.drop_succ_cons, List.drop_zero, List.take_succ_cons, List.take_zero] at f0 f1 f2 f3 f4 f5 f6 f7 f8
  have x0 : xs[0]? = some (xs[0]'(by rw [hxl]; decide)) := List.getElem?_eq_getElem _
  have x1 : xs[1]? = some (xs[1]'(by rw [hxl]; decide)) := List.getElem?_eq_getElem _
  have x2 : xs[2]? = some (xs[2]'(by rw [hxl]; decide)) := List.getElem?_eq_getElem _
  have x3 : xs[3]? = some (xs[3]'(by rw [hxl]; decide)) := List.getElem?_eq_getElem _
  have x4 : xs[4]? = some (xs[4]'(by rw [hxl]; decide)) := List.getElem?_eq_getElem _
  have x5 : xs[5]? = some (xs[5]'(by rw [hxl]; decide)) := List.getElem?_eq_getElem _
  have x6 : xs[6]? = some (xs[6]'(by rw [hxl]; decide)) := List.getElem?_eq_getElem _
  have x7 : xs[7]? = some (xs[7]'(by rw [hxl]; decide)) := List.getElem?_eq_getElem _
  have x8 : xs[8]? = some (xs[8]'(by rw [hxl]; decide)) := List.getElem?_eq_getElem _
  rw [x0] at f0
  rw [x1] at f1
  rw [x2] at f2
  rw [x3] at f3
  rw [x4] at f4
  rw [x5] at f5
  rw [x6] at f6
  rw [x7] at f7
  rw [x8] at f8
  obtain ⟨v0, rfl, lo0, hi0⟩ := isU8 Try.underlying5 f0
  obtain ⟨v1, rfl, lo1, hi1⟩ := isU8 Try.underlying5 f1
  obtain ⟨v2, rfl, lo2, hi2⟩ := isU8 Try.underlying5 f2
  obtain ⟨v3, rfl, lo3, hi3⟩ := isU8 Try.underlying5 f3
  obtain ⟨v4, rfl, lo4, hi4⟩ := isU8 Try.underlying5 f4
  obtain ⟨v5, rfl, lo5, hi5⟩ := isU8 Try.underlying5 f5
  obtain ⟨v6, rfl, lo6, hi6⟩ := isU8 Try.underlying5 f6
  obtain ⟨v7, rfl, lo7, hi7⟩ := isU8 Try.underlying5 f7
  obtain ⟨v8, rfl, lo8, hi8⟩ := isU8 Try.underlying5 f8
  obtain ⟨v0, rfl⟩ := Int.eq_ofNat_of_zero_le lo0
  obtain ⟨v1, rfl⟩ := Int.eq_ofNat_of_zero_le lo1
  obtain ⟨v2, rfl⟩ := Int.eq_ofNat_of_zero_le lo2
  obtain ⟨v3, rfl⟩ := Int.eq_ofNat_of_zero_le lo3
  obtain ⟨v4, rfl⟩ := Int.eq_ofNat_of_zero_le lo4
  obtain ⟨v5, rfl⟩ := Int.eq_ofNat_of_zero_le lo5
  obtain ⟨v6, rfl⟩ := Int.eq_ofNat_of_zero_le lo6
  obtain ⟨v7, rfl⟩ := Int.eq_ofNat_of_zero_le lo7
  obtain ⟨v8, rfl⟩ := Int.eq_ofNat_of_zero_le lo8
  exact ⟨⟨v0, v1, v2, v3, v4, v5, v6, v7, v8⟩, ⟨by show v0 < 256; omega, by show v1 < 256; omega, by show v2 < 256; omega, by show v3 < 256; omega, by show v4 < 256; omega, by show v5 < 256; omega, by show v6 < 256; omega, by show v7 < 256; omega, by show v8 < 256; omega⟩, rfl⟩
end
/-- the elements as a list -/
theorem elems_list {w : World} {A : Option Addr} {len cap C : Nat} {E : List Value → Prop} {α : Type} (R : α → List Value → Prop) (hR : ∀ cs, E cs → ∃ x, R x cs) : ∀ n, n ≤ len → ElemsIn w A len cap C E →
    ∃ X : List α, X.length = n ∧ ∀ (i : Nat) (x : α), X[i]? = some x → ∃ b off cs, A = some ⟨b, off, none⟩ ∧ b < w.heap.size ∧ R x cs ∧ ∀ j, j < C → w.cell? ⟨b, off + i * C + j, none⟩ = cs[j]?
  | 0, _, _ => ⟨[], rfl, fun i x h => by simp at h⟩
  | n + 1, hn, h => by
    obtain ⟨X, hX, hat⟩ := elems_list R hR n (by omega) h
    obtain ⟨b, off, cs, hA, hlt, _, hE, hc⟩ := h.at_ (show n < len by omega)
    obtain ⟨x, hx⟩ := hR cs hE
    refine ⟨X ++ [x], by simp [hX], fun i y hy => ?_⟩
    by_cases hi : i < n
    · rw [List.getElem?_append_left (by omega)] at hy
      exact hat i y hy
    · rw [List.getElem?_append_right (by omega), hX] at hy
      have h0 : i - n = 0 := by
        by_cases e : i - n = 0
        · exact e
        · rw [List.getElem?_eq_none (by simp; omega)] at hy
          cases hy
      have hin : i = n := by omega
      subst hin
      simp at hy
      subst hy
      exact ⟨b, off, cs, hA, hlt, hx, hc⟩
theorem spots_of {w : World} {A : Option Addr} {len cap : Nat} (h : ElemsIn w A len cap 9 SpotCs) : ∃ xs : List Spt, xs.length = len ∧ SpAt w A cap xs := by
  obtain ⟨X, hX, hat⟩ := elems_list (fun (x : Spt) cs => x.Ok ∧ cs = x.cs) (fun cs h => h) len (Nat.le_refl _) h
  refine ⟨X, hX, fun hl => ?_, by rw [hX]; exact h.1, h.2.1, fun x hx => ?_⟩
  · rw [List.length_map] at hl
    obtain ⟨b, off, cs, hA, hlt, _, _⟩ := hat 0 _ (List.getElem?_eq_getElem hl)
    refine ⟨b, off, hA, hlt, fun i cs2 hi j u hu => ?_⟩
    rw [List.getElem?_map] at hi
    cases hx : X[i]? with
    | none => rw [hx] at hi; cases hi
    | some x =>
      rw [hx] at hi
      obtain rfl : x.cs = cs2 := Option.some.inj hi
      obtain ⟨b2, off2, cs3, hA2, _, ⟨_, rfl⟩, hc⟩ := hat i x hx
      rw [hA] at hA2
      simp only [Option.some.injEq, Addr.mk.injEq, and_true] at hA2
      obtain ⟨rfl, rfl⟩ := hA2
      have hj : j < 9 := (List.getElem?_eq_some_iff.1 hu).1
      rw [hc j hj]
      exact hu
  · obtain ⟨i, hi, rfl⟩ := List.mem_iff_getElem.1 hx
    obtain ⟨_, _, _, _, _, ⟨hok, _⟩, _⟩ := hat i _ (List.getElem?_eq_getElem hi)
    exact hok
end Go.Proofs.Ytoamigfjpcniaaa
