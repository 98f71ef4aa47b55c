/-
  Timers: small numbers that came in. Conditions: none.
-/
import Derived.Test.YtcgegaahdbnacaaWhK
import Derived.Test.YtcgegaahdbnacaaOpenAny
set_option linter.unusedVariables false
set_option linter.unusedSimpArgs false
namespace Go.Proofs.Ytcgegaahdbnacaa
open Go.RowKit Go.MapKept
open Go.ChangeShapes Go.WideShapes Go.ChangeAt

def SetCs (cs : List Value) : Prop := ∃ s : SetV, s.Ok ∧ cs = [.int .u8 (s.kind : Nat), .int .u8 (s.peer : Nat), .int .u8 (s.fam : Nat), .int .u8 (s.at_ : Nat)]
theorem list4 {α : Type} {l : List α} (h : l.length = 4) : ∃ a b c d, l = [a, b, c, d] := by
  match l, h with
  | [a, b, c, d], _ => exact ⟨a, b, c, d, rfl⟩
section
variable {H : Type} {enc : TypeId × Value → H} {w : World} {held : Bool} {base : Nat} {sp : Nat → Bool}
theorem set_cs {n : Nat} {cs : List Value} {y : DataW H × List MemPlace} (h : DataW.trod enc Try.prog w base sp held n 65 cs = some y) : SetCs cs := by
  obtain ⟨xs, m, rfl, _, hlen, hxl, hf⟩ := DataW.trod_struct Try.underlying65 h
  have hc1 : Try.prog.cellsOf 65 = 4 := by kernel_rfl
  have hc2 : Try.prog.cellsOf 5 = 1 := by kernel_rfl
  rw [hc1] at hlen
  obtain ⟨a, b, c, d, rfl⟩ := list4 hlen
  have f0 := hf 0 _ rfl
  have f1 := hf 1 _ rfl
  have f2 := hf 2 _ rfl
  have f3 := hf 3 _ rfl
  change DataW.trod enc Try.prog w base sp held m 5 (([a, b, c, d].drop 0).take (Try.prog.cellsOf 5)) = xs[0]? at f0
  change DataW.trod enc Try.prog w base sp held m 5 (([a, b, c, d].drop 1).take (Try.prog.cellsOf 5)) = xs[1]? at f1
  change DataW.trod enc Try.prog w base sp held m 5 (([a, b, c, d].drop 2).take (Try.prog.cellsOf 5)) = xs[2]? at f2
  change DataW.trod enc Try.prog w base sp held m 5 (([a, b, c, d].drop 3).take (Try.prog.cellsOf 5)) = xs[3]? at f3
  simp only [hc2, List.drop_succ_cons, List.drop_zero, List.take_succ_cons, List.take_zero] at f0 f1 f2 f3
  have x0 : xs[0]? = some (xs[0]'(by rw [hxl]; decide)) := List.getElem?_eq_getElem _
  have x1 : xs[1]? = some (xs[1]'(by rw [hxl]; decide)) := List.getElem?_eq_getElem _
  have x2 : xs[2]? = some (xs[2]'(by rw [hxl]; decide)) := List.getElem?_eq_getElem _
  have x3 : xs[3]? = some (xs[3]'(by rw [hxl]; decide)) := List.getElem?_eq_getElem _
  rw [x0] at f0
  rw [x1] at f1
  rw [x2] at f2
  rw [x3] at f3
  obtain ⟨k, rfl, k1, k2⟩ := isU8 Try.underlying5 f0
  obtain ⟨p, rfl, p1, p2⟩ := isU8 Try.underlying5 f1
  obtain ⟨f, rfl, g1, g2⟩ := isU8 Try.underlying5 f2
  obtain ⟨u, rfl, u1, u2⟩ := isU8 Try.underlying5 f3
  obtain ⟨k, rfl⟩ := Int.eq_ofNat_of_zero_le k1
  obtain ⟨p, rfl⟩ := Int.eq_ofNat_of_zero_le p1
  obtain ⟨f, rfl⟩ := Int.eq_ofNat_of_zero_le g1
  obtain ⟨u, rfl⟩ := Int.eq_ofNat_of_zero_le u1
  exact ⟨⟨k, p, f, u⟩, ⟨by show k < 256; omega, by show p < 256; omega, by show f < 256; omega, by show u < 256; omega⟩, rfl⟩
end
/-- the elements as a list -/
theorem elems_list {w : World} {A : Option Addr} {len cap C : Nat} {E : List Value → Prop} {α : Type} (R : α → List Value → Prop) (hR : ∀ cs, E cs → ∃ x, R x cs) : ∀ n, n ≤ len → ElemsIn w A len cap C E →
    ∃ X : List α, X.length = n ∧ ∀ (i : Nat) (x : α), X[i]? = some x → ∃ b off cs, A = some ⟨b, off, none⟩ ∧ b < w.heap.size ∧ R x cs ∧ ∀ j, j < C → w.cell? ⟨b, off + i * C + j, none⟩ = cs[j]?
  | 0, _, _ => ⟨[], rfl, fun i x h => by simp at h⟩
  | n + 1, hn, h => by
    obtain ⟨X, hX, hat⟩ := elems_list R hR n (by omega) h
    obtain ⟨b, off, cs, hA, hlt, _, hE, hc⟩ := h.at_ (show n < len by omega)
    obtain ⟨x, hx⟩ := hR cs hE
    refine ⟨X ++ [x], by simp [hX], fun i y hy => ?_⟩
    by_cases hi : i < n
    · rw [List.getElem?_append_left (by omega)] at hy
      exact hat i y hy
    · rw [List.getElem?_append_right (by omega), hX] at hy
      have h0 : i - n = 0 := by
        by_cases e : i - n = 0
        · exact e
        · rw [List.getElem?_eq_none (by simp; omega)] at hy
          cases hy
      have hin : i = n := by omega
      subst hin
      simp at hy
      subst hy
      exact ⟨b, off, cs, hA, hlt, hx, hc⟩
theorem sets_of {w : World} {A : Option Addr} {len cap : Nat} (h : ElemsIn w A len cap 4 SetCs) : ∃ X, SetsIn w A len cap X := by
  obtain ⟨X, hX, hat⟩ := elems_list (fun (s : SetV) cs => s.Ok ∧ cs = [.int .u8 (s.kind : Nat), .int .u8 (s.peer : Nat), .int .u8 (s.fam : Nat), .int .u8 (s.at_ : Nat)]) (fun cs h => h) len (Nat.le_refl _) h
  refine ⟨X, hX, h.1, h.2.1, fun i s hs => ?_⟩
  obtain ⟨b, off, cs, hA, hlt, ⟨hok, rfl⟩, hc⟩ := hat i s hs
  exact ⟨b, off, hA, hlt, hok, hc 0 (by omega), hc 1 (by omega), hc 2 (by omega), hc 3 (by omega)⟩
end Go.Proofs.Ytcgegaahdbnacaa
