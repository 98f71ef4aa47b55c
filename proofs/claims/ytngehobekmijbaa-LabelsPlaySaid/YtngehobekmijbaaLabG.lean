/-
  Labels: keys that came in; how many labels there are. Conditions: none.
-/
import Derived.Test.YtngehobekmijbaaLabF
import Derived.Test.YtngehobekmijbaaOpenAny
set_option linter.unusedVariables false
set_option linter.unusedSimpArgs false
namespace Go.Proofs.Ytngehobekmijbaa
open Go.RowKit Go.MapKept
open Go.Maps (Keyed)
open Go.ChangeShapes Go.WideShapes Go.ChangeAt

/-- a key's cells -/
def KeyCs (cs : List Value) : Prop := ∃ k : LK, k.Ok ∧ cs = [.string k.vrf, .int .i64 k.fam, .int .u64 k.rd, .string k.addr, .int .i64 k.len]
theorem list5 {α : Type} {l : List α} (h : l.length = 5) : ∃ a b c d e, l = [a, b, c, d, e] := by
  match l, h with
  | [a, b, c, d, e], _ => exact ⟨a, b, c, d, e, rfl⟩
section
variable {H : Type} {enc : TypeId × Value → H} {w : World} {held : Bool} {base : Nat} {sp : Nat → Bool}
theorem key_cs {n : Nat} {cs : List Value} {y : DataW H × List MemPlace} (h : DataW.trod enc Try.prog w base sp held n 34 cs = some y) : KeyCs cs := by
  obtain ⟨xs, m, rfl, _, hlen, hxl, hf⟩ := DataW.trod_struct Try.underlying34 h
  have hc1 : Try.prog.cellsOf 34 = 5 := by kernel_rfl
  have hc2 : Try.prog.cellsOf 32 = 4 := by kernel_rfl
  have hc3 : Try.prog.cellsOf 9 = 1 := by kernel_rfl
  have hc4 : Try.prog.cellsOf 3 = 1 := by kernel_rfl
  have hc5 : Try.prog.cellsOf 30 = 1 := by kernel_rfl
  rw [hc1] at hlen
  obtain ⟨a, b, c, d, e, rfl⟩ := list5 hlen
  have f0 := hf 0 _ rfl
  have f1 := hf 1 _ rfl
  change DataW.trod enc Try.prog w base sp held m 9 (([a, b, c, d, e].drop 0).take (Try.prog.cellsOf 9)) = xs[0]? at f0
  change DataW.trod enc Try.prog w base sp held m 32 (([a, b, c, d, e].drop 1).take (Try.prog.cellsOf 32)) = xs[1]? at f1
  simp only [hc2, hc3, List.drop_succ_cons, List.drop_zero, List.take_succ_cons, List.take_zero] at f0 f1
  have x0 : xs[0]? = some (xs[0]'(by rw [hxl]; decide)) := List.getElem?_eq_getElem _
  have x1 : xs[1]? = some (xs[1]'(by rw [hxl]; decide)) := List.getElem?_eq_getElem _
  rw [x0] at f0
  rw [x1] at f1
  obtain ⟨v, hv, _, hvs⟩ := DataW.trod_string Try.underlying9 f0
  obtain ⟨zs, m2, rfl, _, hlen2, hzl, hg⟩ := DataW.trod_struct Try.underlying32 f1
  have g0 := hg 0 _ rfl
  have g1 := hg 1 _ rfl
  have g2 := hg 2 _ rfl
  have g3 := hg 3 _ rfl
  change DataW.trod enc Try.prog w base sp held m2 3 (([b, c, d, e].drop 0).take (Try.prog.cellsOf 3)) = zs[0]? at g0
  change DataW.trod enc Try.prog w base sp held m2 30 (([b, c, d, e].drop 1).take (Try.prog.cellsOf 30)) = zs[1]? at g1
  change DataW.trod enc Try.prog w base sp held m2 9 (([b, c, d, e].drop 2).take (Try.prog.cellsOf 9)) = zs[2]? at g2
  change DataW.trod enc Try.prog w base sp held m2 3 (([b, c, d, e].drop 3).take (Try.prog.cellsOf 3)) = zs[3]? at g3
  simp only [hc3, hc4, hc5, List.drop_succ_cons, List.drop_zero, List.take_succ_cons, List.take_zero] at g0 g1 g2 g3
  have z0 : zs[0]? = some (zs[0]'(by rw [hzl]; decide)) := List.getElem?_eq_getElem _
  have z1 : zs[1]? = some (zs[1]'(by rw [hzl]; decide)) := List.getElem?_eq_getElem _
  have z2 : zs[2]? = some (zs[2]'(by rw [hzl]; decide)) := List.getElem?_eq_getElem _
  have z3 : zs[3]? = some (zs[3]'(by rw [hzl]; decide)) := List.getElem?_eq_getElem _
  rw [z0] at g0
  rw [z1] at g1
  rw [z2] at g2
  rw [z3] at g3
  obtain ⟨fm, rfl, f1a, f1b⟩ := isI64 Try.underlying3 g0
  obtain ⟨rd, rfl, r1, r2⟩ := isU64 Try.underlying30 g1
  obtain ⟨ad, had, _, hads⟩ := DataW.trod_string Try.underlying9 g2
  obtain ⟨ln, rfl, l1, l2⟩ := isI64 Try.underlying3 g3
  simp only [List.cons.injEq, and_true] at hv had
  subst hv
  subst had
  unfold maxLen at hvs hads
  exact ⟨⟨v, fm, rd, ad, ln⟩, ⟨hvs, hads, ⟨f1a, f1b⟩, ⟨r1, by show rd ≤ _; omega⟩, ⟨l1, l2⟩⟩, rfl⟩
end

/-- no two keys, no two labels -/
theorem LabAt.keys {w : World} {b m1 m2 low high : Nat} {S : List (LK × Nat)} (h : LabAt w b m1 m2 low high S) : S.Pairwise (fun p q => p.1 ≠ q.1) := by
  have := h.of.apart
  unfold ofL at this
  rw [List.pairwise_map] at this
  exact this.imp (fun hne e => hne (by simp only [e]))
theorem LabAt.labels {w : World} {b m1 m2 low high : Nat} {S : List (LK × Nat)} (h : LabAt w b m1 m2 low high S) : S.Pairwise (fun p q => p.2 ≠ q.2) := by
  have := h.key.apart
  unfold keyL at this
  rw [List.pairwise_map] at this
  exact this.imp (fun hne e => hne (by simp only [e]))
/-- how many lie below n -/
def cntB (S : List (LK × Nat)) (n : Nat) : Nat := (S.filter fun p => decide (p.2 < n)).length
theorem cntB_has : ∀ (S : List (LK × Nat)) (n : Nat), S.Pairwise (fun p q => p.2 ≠ q.2) → (∃ p ∈ S, p.2 = n) → cntB S (n + 1) = cntB S n + 1
  | [], _, _, h => by obtain ⟨p, hp, _⟩ := h; cases hp
  | p :: r, n, hd, h => by
    obtain ⟨h1, h2⟩ := List.pairwise_cons.1 hd
    by_cases hp : p.2 = n
    · have hr : ∀ l : List (LK × Nat), (∀ q ∈ l, p.2 ≠ q.2) → cntB l (n + 1) = cntB l n := fun l hl => by
        unfold cntB
        congr 1
        refine List.filter_congr fun q hq => ?_
        have := hl q hq
        rw [decide_eq_decide]
        omega
      have e1 : cntB (p :: r) (n + 1) = cntB r (n + 1) + 1 := by unfold cntB; rw [List.filter_cons_of_pos (by simp; omega)]; rfl
      have e2 : cntB (p :: r) n = cntB r n := by unfold cntB; rw [List.filter_cons_of_neg (by simp; omega)]
      rw [e1, e2, hr r h1]
    · have h' : ∃ q ∈ r, q.2 = n := by
        obtain ⟨q, hq, e⟩ := h
        rcases List.mem_cons.1 hq with rfl | hq
        · exact absurd e hp
        · exact ⟨q, hq, e⟩
      have ih := cntB_has r n h2 h'
      by_cases hlt : p.2 < n
      · have e1 : cntB (p :: r) (n + 1) = cntB r (n + 1) + 1 := by unfold cntB; rw [List.filter_cons_of_pos (by simp; omega)]; rfl
        have e2 : cntB (p :: r) n = cntB r n + 1 := by unfold cntB; rw [List.filter_cons_of_pos (by simp; omega)]; rfl
        rw [e1, e2, ih]
      · have e1 : cntB (p :: r) (n + 1) = cntB r (n + 1) := by unfold cntB; rw [List.filter_cons_of_neg (by simp; omega)]
        have e2 : cntB (p :: r) n = cntB r n := by unfold cntB; rw [List.filter_cons_of_neg (by simp; omega)]
        rw [e1, e2, ih]
theorem cntB_no (S : List (LK × Nat)) (n : Nat) (h : ∀ p ∈ S, p.2 ≠ n) : cntB S (n + 1) = cntB S n := by
  unfold cntB
  congr 1
  refine List.filter_congr fun q hq => ?_
  have := h q hq
  rw [decide_eq_decide]
  omega
theorem cntB_le (S : List (LK × Nat)) (hd : S.Pairwise (fun p q => p.2 ≠ q.2)) (low : Nat) (hl : ∀ p ∈ S, low ≤ p.2) : ∀ d, cntB S (low + d) ≤ d
  | 0 => by
    have : S.filter (fun p => decide (p.2 < low + 0)) = [] := List.filter_eq_nil_iff.2 fun p hp => by
      have := hl p hp
      simp
      omega
    unfold cntB
    rw [this]
    simp
  | d + 1 => by
    have ih := cntB_le S hd low hl d
    by_cases h : ∃ p ∈ S, p.2 = low + d
    · rw [← Nat.add_assoc, cntB_has S (low + d) hd h]; omega
    · rw [← Nat.add_assoc, cntB_no S (low + d) (fun p hp e => h ⟨p, hp, e⟩)]; omega
theorem cntB_all (S : List (LK × Nat)) (hd : S.Pairwise (fun p q => p.2 ≠ q.2)) (low : Nat) (hl : ∀ p ∈ S, low ≤ p.2) : ∀ d, (∀ q, low ≤ q → q < low + d → ∃ p ∈ S, p.2 = q) → cntB S (low + d) = d
  | 0, _ => by have := cntB_le S hd low hl 0; omega
  | d + 1, h => by
    have ih := cntB_all S hd low hl d (fun q h1 h2 => h q h1 (by omega))
    rw [← Nat.add_assoc, cntB_has S (low + d) hd (h _ (by omega) (by omega)), ih]
theorem cntB_whole (S : List (LK × Nat)) (n : Nat) (h : ∀ p ∈ S, p.2 < n) : cntB S n = S.length := by
  unfold cntB
  rw [List.filter_eq_self.2 (fun p hp => by simpa using h p hp)]
theorem LabAt.count {w : World} {b m1 m2 low high : Nat} {S : List (LK × Nat)} (h : LabAt w b m1 m2 low high S) : S.length ≤ high + 1 - low := by
  have h1 := h.lh
  have h2 := cntB_le S h.labels low (fun p hp => (h.ok p hp).2.1) (high + 1 - low)
  rw [show low + (high + 1 - low) = high + 1 by omega, cntB_whole S _ (fun p hp => Nat.lt_succ_of_le (h.ok p hp).2.2)] at h2
  exact h2
theorem LabAt.full {w : World} {b m1 m2 low high : Nat} {S : List (LK × Nat)} (h : LabAt w b m1 m2 low high S) (ha : ∀ q, low ≤ q → q ≤ high → ∃ p ∈ S, p.2 = q) : S.length = high + 1 - low := by
  have h1 := h.lh
  have h2 := cntB_all S h.labels low (fun p hp => (h.ok p hp).2.1) (high + 1 - low) (fun q a b => ha q a (by omega))
  rw [show low + (high + 1 - low) = high + 1 by omega, cntB_whole S _ (fun p hp => Nat.lt_succ_of_le (h.ok p hp).2.2)] at h2
  exact h2
theorem erase_no {S : List (LK × Nat)} {j : Nat} {k : LK} {n : Nat} (hp : S.Pairwise (fun p q => p.1 ≠ q.1)) (hj : S[j]? = some (k, n)) : ∀ p ∈ S.eraseIdx j, p.1 ≠ k := fun p hm e => by
  obtain ⟨i, hi, ei⟩ := List.mem_eraseIdx_iff_getElem?.1 hm
  obtain ⟨a1, a2⟩ := List.getElem?_eq_some_iff.1 hj
  obtain ⟨b1, b2⟩ := List.getElem?_eq_some_iff.1 ei
  rcases Nat.lt_trichotomy i j with hl | he | hg
  · have := List.pairwise_iff_getElem.1 hp i j b1 a1 hl
    rw [a2, b2] at this
    exact this e
  · exact hi he
  · have := List.pairwise_iff_getElem.1 hp j i a1 b1 hg
    rw [a2, b2] at this
    exact this e.symm

end Go.Proofs.Ytngehobekmijbaa
