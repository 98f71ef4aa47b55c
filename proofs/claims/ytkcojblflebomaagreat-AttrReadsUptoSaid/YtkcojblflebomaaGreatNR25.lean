/-
  Several texts in one.
-/
import Derived.Test.YtkcojblflebomaaGreatNR23
import Derived.Test.YtkcojblflebomaaGreatNR24
set_option linter.unusedVariables false
set_option linter.unusedSimpArgs false
namespace Go.Proofs.YtkcojblflebomaaGreat
open Go.RowKit Go.MapKept Go.Shelf
open Go.Lib hiding intOf
open Go.Sort hiding Below

theorem atOk_iff (c : AtC) : atOk c = true ↔ (0 ≤ c.origin ∧ c.origin ≤ 2) ∧ pathOk c.path = true ∧ nextOk c.next = true ∧ spareOk c = true ∧ listsOk c = true := by
  unfold atOk
  simp only [Bool.and_eq_true, decide_eq_true_eq, and_assoc]
theorem lists_iff (c : AtC) : listsOk c = true ↔ c.clus.length ≤ 32 ∧ (riseB ltN c.comms = true ∧ c.comms.length ≤ 64) ∧ (riseB ltN c.exts = true ∧ c.exts.length ≤ 64) ∧ (riseB ltL c.larges = true ∧ c.larges.length ≤ 64) := by
  unfold listsOk
  simp only [Bool.and_eq_true, decide_eq_true_eq, and_assoc]
theorem spare_iff (c : AtC) : spareOk c = true ↔ (c.hasMed = true ∨ c.med = 0) ∧ (c.hasPref = true ∨ c.pref = 0) ∧ (c.hasOrig = true ∨ c.orig = 0) ∧ (c.aggAs ≠ 0 ∨ c.aggId = 0) := by
  unfold spareOk
  simp only [Bool.and_eq_true, Bool.or_eq_true, beq_iff_eq, Bool.not_eq_true', beq_eq_false_iff_ne, ne_eq, and_assoc]
theorem tab_1 (v : ByteArray) (four : Bool) (c : AtC) : tab 1 v four c = take1 v c := rfl
theorem tab_2 (v : ByteArray) (four : Bool) (c : AtC) : tab 2 v four c = take2 v four c := rfl
theorem tab_3 (v : ByteArray) (four : Bool) (c : AtC) : tab 3 v four c = take3 v c := rfl
theorem tab_4 (v : ByteArray) (four : Bool) (c : AtC) : tab 4 v four c = take4 v c := rfl
theorem tab_5 (v : ByteArray) (four : Bool) (c : AtC) : tab 5 v four c = take5 v c := rfl
theorem tab_6 (v : ByteArray) (four : Bool) (c : AtC) : tab 6 v four c = take6 v c := rfl
theorem tab_7 (v : ByteArray) (four : Bool) (c : AtC) : tab 7 v four c = take7 v four c := rfl
theorem tab_8 (v : ByteArray) (four : Bool) (c : AtC) : tab 8 v four c = take8 v c := rfl
theorem tab_9 (v : ByteArray) (four : Bool) (c : AtC) : tab 9 v four c = take9 v c := rfl
theorem tab_10 (v : ByteArray) (four : Bool) (c : AtC) : tab 10 v four c = take10 v c := rfl
theorem tab_16 (v : ByteArray) (four : Bool) (c : AtC) : tab 16 v four c = take16 v c := rfl
theorem tab_32 (v : ByteArray) (four : Bool) (c : AtC) : tab 32 v four c = take32 v c := rfl
theorem decP_ok {four : Bool} {s : ByteArray} {l : List (Int × List Nat)} (h : decP four s = some l) : pathOk l = true := by
  unfold decP at h
  split at h
  · cases h
  · split at h
    · rename_i h2
      injection h with h
      subst h
      exact h2
    · cases h
/-- what a type's value leaves may be, where it is none of the wrong ones -/
theorem tab_keeps {t : Nat} {b wr : Int} {i : Bool} {f : FuncId} (h : rowF t = some (b, wr, i, f)) (v : ByteArray) (four : Bool) (c : AtC) (hc : atOk c = true) : (atOk (tab t v four c).1 = true ∨ (tab t v four c).2 = false ∧ wr = 2) ∧ (wr = 1 ∨ wr = 2) := by
  obtain ⟨h1, h2, h3, h4, h5⟩ := (atOk_iff c).1 hc
  obtain ⟨l1, l2, l3, l4⟩ := (lists_iff c).1 h5
  obtain ⟨s1, s2, s3, s4⟩ := (spare_iff c).1 h4
  have hk := row_known h
  rcases hk with rfl | rfl | rfl | rfl | rfl | rfl | rfl | rfl | rfl | rfl | rfl | rfl
  · obtain ⟨-, rfl, -⟩ : b = 64 ∧ wr = 2 ∧ True := by
      have h' : (64, (2 : Int), _, _) = (b, wr, i, f) := Option.some.inj h
      simp only [Prod.mk.injEq] at h'
      exact ⟨h'.1.symm, h'.2.1.symm, trivial⟩
    refine ⟨?_, .inr rfl⟩
    rw [tab_1]
    unfold take1
    split
    · exact .inl ((atOk_iff _).2 ⟨⟨by show (0 : Int) ≤ (hd v 1 : Nat); omega, by rename_i hq; show ((hd v 1 : Nat) : Int) ≤ 2; omega⟩, h2, h3, h4, h5⟩)
    · exact .inl hc
  · obtain rfl : wr = 2 := by
      have h' : (64, (2 : Int), _, _) = (b, wr, i, f) := Option.some.inj h
      simp only [Prod.mk.injEq] at h'
      exact h'.2.1.symm
    refine ⟨?_, .inr rfl⟩
    rw [tab_2]
    unfold take2
    split
    · exact .inr ⟨rfl, rfl⟩
    · rename_i l hl
      exact .inl ((atOk_iff _).2 ⟨h1, decP_ok hl, h3, h4, h5⟩)
  · obtain rfl : wr = 2 := by
      have h' : (64, (2 : Int), _, _) = (b, wr, i, f) := Option.some.inj h
      simp only [Prod.mk.injEq] at h'
      exact h'.2.1.symm
    refine ⟨?_, .inr rfl⟩
    rw [tab_3]
    unfold take3
    cases hv : v.size == 4
    · exact .inr ⟨rfl, rfl⟩
    · exact .inl ((atOk_iff _).2 ⟨h1, h2, by show nextOk v = true; unfold nextOk; rw [hv]; simp, h4, h5⟩)
  · obtain rfl : wr = 2 := by
      have h' : (128, (2 : Int), _, _) = (b, wr, i, f) := Option.some.inj h
      simp only [Prod.mk.injEq] at h'
      exact h'.2.1.symm
    refine ⟨?_, .inr rfl⟩
    rw [tab_4]
    unfold take4
    split
    · exact .inl ((atOk_iff _).2 ⟨h1, h2, h3, (spare_iff _).2 ⟨.inl rfl, s2, s3, s4⟩, h5⟩)
    · exact .inl hc
  · obtain rfl : wr = 2 := by
      have h' : (64, (2 : Int), _, _) = (b, wr, i, f) := Option.some.inj h
      simp only [Prod.mk.injEq] at h'
      exact h'.2.1.symm
    refine ⟨?_, .inr rfl⟩
    rw [tab_5]
    unfold take5
    split
    · exact .inl ((atOk_iff _).2 ⟨h1, h2, h3, (spare_iff _).2 ⟨s1, .inl rfl, s3, s4⟩, h5⟩)
    · exact .inl hc
  · obtain rfl : wr = 1 := by
      have h' : (64, (1 : Int), _, _) = (b, wr, i, f) := Option.some.inj h
      simp only [Prod.mk.injEq] at h'
      exact h'.2.1.symm
    exact ⟨.inl ((atOk_iff _).2 ⟨h1, h2, h3, h4, h5⟩), .inl rfl⟩
  · obtain rfl : wr = 1 := by
      have h' : (192, (1 : Int), _, _) = (b, wr, i, f) := Option.some.inj h
      simp only [Prod.mk.injEq] at h'
      exact h'.2.1.symm
    refine ⟨?_, .inl rfl⟩
    rw [tab_7]
    unfold take7
    split
    · rename_i hq
      exact .inl ((atOk_iff _).2 ⟨h1, h2, h3, (spare_iff _).2 ⟨s1, s2, s3, .inl hq.2⟩, h5⟩)
    · exact .inl hc
  · obtain rfl : wr = 2 := by
      have h' : (192, (2 : Int), _, _) = (b, wr, i, f) := Option.some.inj h
      simp only [Prod.mk.injEq] at h'
      exact h'.2.1.symm
    refine ⟨?_, .inr rfl⟩
    rw [tab_8]
    unfold take8
    split
    · exact .inr ⟨rfl, rfl⟩
    · rename_i l hl
      exact .inl ((atOk_iff _).2 ⟨h1, h2, h3, h4, (lists_iff _).2 ⟨l1, readC_ok swoN ltN_total hl, l3, l4⟩⟩)
  · obtain rfl : wr = 2 := by
      have h' : (128, (2 : Int), _, _) = (b, wr, i, f) := Option.some.inj h
      simp only [Prod.mk.injEq] at h'
      exact h'.2.1.symm
    refine ⟨?_, .inr rfl⟩
    rw [tab_9]
    unfold take9
    split
    · exact .inl ((atOk_iff _).2 ⟨h1, h2, h3, (spare_iff _).2 ⟨s1, s2, .inl rfl, s4⟩, h5⟩)
    · exact .inl hc
  · obtain rfl : wr = 2 := by
      have h' : (128, (2 : Int), _, _) = (b, wr, i, f) := Option.some.inj h
      simp only [Prod.mk.injEq] at h'
      exact h'.2.1.symm
    refine ⟨?_, .inr rfl⟩
    rw [tab_10]
    unfold take10
    split
    · exact .inl hc
    · rename_i hq
      refine .inl ((atOk_iff _).2 ⟨h1, h2, h3, h4, (lists_iff _).2 ⟨?_, l2, l3, l4⟩⟩)
      show (asN 4 (v.size / 4) v).length ≤ 32
      rw [asN_len]
      omega
  · obtain rfl : wr = 2 := by
      have h' : (192, (2 : Int), _, _) = (b, wr, i, f) := Option.some.inj h
      simp only [Prod.mk.injEq] at h'
      exact h'.2.1.symm
    refine ⟨?_, .inr rfl⟩
    rw [tab_16]
    unfold take16
    split
    · exact .inr ⟨rfl, rfl⟩
    · rename_i l hl
      exact .inl ((atOk_iff _).2 ⟨h1, h2, h3, h4, (lists_iff _).2 ⟨l1, l2, readC_ok swoN ltN_total hl, l4⟩⟩)
  · obtain rfl : wr = 2 := by
      have h' : (192, (2 : Int), _, _) = (b, wr, i, f) := Option.some.inj h
      simp only [Prod.mk.injEq] at h'
      exact h'.2.1.symm
    refine ⟨?_, .inr rfl⟩
    rw [tab_32]
    unfold take32
    split
    · exact .inr ⟨rfl, rfl⟩
    · rename_i l hl
      exact .inl ((atOk_iff _).2 ⟨h1, h2, h3, h4, (lists_iff _).2 ⟨l1, l2, l3, readC_ok swoL ltL_total hl⟩⟩)
/-- what of an external neighbour is never taken -/
def outOk (c : AtC) : Prop := c.hasPref = false ∧ c.hasOrig = false ∧ c.clus = []
theorem tab_out {t : Nat} {b wr : Int} {f : FuncId} (h : rowF t = some (b, wr, false, f)) (v : ByteArray) (four : Bool) (c : AtC) (hc : outOk c) : outOk (tab t v four c).1 := by
  rcases row_known h with rfl | rfl | rfl | rfl | rfl | rfl | rfl | rfl | rfl | rfl | rfl | rfl
  · rw [tab_1]; unfold take1; split <;> exact hc
  · rw [tab_2]; unfold take2; split <;> exact hc
  · exact hc
  · rw [tab_4]; unfold take4; split <;> exact hc
  · have h' : ((64 : Int), (2 : Int), true, _) = (b, wr, false, f) := Option.some.inj h
    simp at h'
  · exact hc
  · rw [tab_7]; unfold take7; split <;> exact hc
  · rw [tab_8]; unfold take8; split <;> exact hc
  · have h' : ((128 : Int), (2 : Int), true, _) = (b, wr, false, f) := Option.some.inj h
    simp at h'
  · have h' : ((128 : Int), (2 : Int), true, _) = (b, wr, false, f) := Option.some.inj h
    simp at h'
  · rw [tab_16]; unfold take16; split <;> exact hc
  · rw [tab_32]; unfold take32; split <;> exact hc
/-- what Read has in hand, judged -/
structure JI (internal : Bool) (c : AtC) (v : Vd) : Prop where
  ok : v.act < 2 → atOk c = true
  a0 : 0 ≤ v.act
  a3 : v.act ≤ 3
  code : v.act = 3 → v.code = 3 ∧ (v.sub = 1 ∨ v.sub = 2)
  none : v.act ≠ 3 → v.code = 0 ∧ v.sub = 0
  out : internal = false → outOk c
theorem JI.judge {internal : Bool} {c c' : AtC} {v : Vd} (h : JI internal c v) (x : Vd) (hx : (x.act = 1 ∨ x.act = 2) ∧ x.code = 0 ∧ x.sub = 0 ∨ x.act = 3 ∧ x.code = 3 ∧ (x.sub = 1 ∨ x.sub = 2)) (hok : v.act < 2 → x.act < 2 → atOk c' = true) (ho : internal = false → outOk c') : JI internal c' (judgeF v x) := by
  unfold judgeF
  split
  · rename_i hlt
    exact ⟨fun h1 => hok (by omega) h1, by omega, by omega, fun e => by omega, fun e => by omega, ho⟩
  · rename_i hge
    exact ⟨fun h1 => hok h1 (by omega), h.a0, h.a3, h.code, h.none, ho⟩
theorem JI.step {four internal : Bool} {met : List UInt8} {c : AtC} {v : Vd} (h : JI internal c v) (x : Rw) : JI internal (readStep tab four internal met c v x).1 (readStep tab four internal met c v x).2 := by
  unfold readStep
  split
  · split
    · exact h.judge ⟨3, 3, 1⟩ (.inr ⟨rfl, rfl, .inl rfl⟩) (fun h1 _ => h.ok h1) h.out
    · exact h
  · split
    · exact h
    · split
      · split
        · exact h.judge ⟨3, 3, 2⟩ (.inr ⟨rfl, rfl, .inr rfl⟩) (fun h1 _ => h.ok h1) h.out
        · exact h
      · rename_i b wr i f hrow
        split
        · exact h.judge ⟨1, 0, 0⟩ (.inl ⟨.inl rfl, rfl, rfl⟩) (fun h1 _ => h.ok h1) h.out
        · rename_i hin
          split
          · exact h.judge ⟨2, 0, 0⟩ (.inl ⟨.inr rfl, rfl, rfl⟩) (fun h1 _ => h.ok h1) h.out
          · have hout : internal = false → outOk (tab x.t.toNat x.v four c).1 := fun e => by
              subst e
              have hi : i = false := by cases i <;> simp at hin ⊢
              subst hi
              exact tab_out hrow _ _ _ (h.out rfl)
            have hk := tab_keeps hrow x.v four c
            split
            · rename_i hT
              exact ⟨fun h1 => ((hk (h.ok h1)).1).elim id (fun q => by rw [hT] at q; cases q.1), h.a0, h.a3, h.code, h.none, hout⟩
            · have hwr : wr = 1 ∨ wr = 2 := by
                rcases row_known hrow with e | e | e | e | e | e | e | e | e | e | e | e
                all_goals
                  rw [e] at hrow
                  have h' := Option.some.inj hrow
                  simp only [Prod.mk.injEq] at h'
                  have := h'.2.1
                  omega
              refine h.judge ⟨wr, 0, 0⟩ (.inl ⟨hwr, rfl, rfl⟩) (fun h1 h2 => ?_) hout
              rcases (hk (h.ok h1)).1 with q | q
              · exact q
              · have : wr < 2 := h2
                omega
theorem JI.all {four internal : Bool} : ∀ (L : List Rw) (met : List UInt8) (c : AtC) (v : Vd), JI internal c v → JI internal (readF tab four internal met c v L).1 (readF tab four internal met c v L).2
  | [], _, _, _, h => h
  | x :: r, met, c, v, h => JI.all r (x.t :: met) _ _ (h.step x)
theorem noC_ok : atOk noC = true := by decide
theorem JI.start (internal : Bool) : JI internal noC ⟨0, 0, 0⟩ := ⟨fun _ => noC_ok, by decide, by decide, fun h => absurd h (by decide), fun _ => ⟨rfl, rfl⟩, fun _ => ⟨rfl, rfl, rfl⟩⟩
end Go.Proofs.YtkcojblflebomaaGreat
set_option linter.unusedVariables false
set_option linter.unusedSimpArgs false
namespace Go.Proofs.YtkcojblflebomaaGreat
open Go.RowKit Go.MapKept Go.Shelf
open Go.Lib hiding intOf
open Go.Sort hiding Below

/-- what of attributes belongs to a type -/
def grp (t : Nat) (c : AtC) : AtC :=
  if t = 1 then { noC with origin := c.origin } else
  if t = 2 then { noC with path := c.path } else
  if t = 3 then { noC with next := c.next } else
  if t = 4 then { noC with hasMed := c.hasMed, med := c.med } else
  if t = 5 then { noC with hasPref := c.hasPref, pref := c.pref } else
  if t = 6 then { noC with atomic := c.atomic } else
  if t = 7 then { noC with aggAs := c.aggAs, aggId := c.aggId } else
  if t = 8 then { noC with comms := c.comms } else
  if t = 9 then { noC with hasOrig := c.hasOrig, orig := c.orig } else
  if t = 10 then { noC with clus := c.clus } else
  if t = 16 then { noC with exts := c.exts } else
  if t = 32 then { noC with larges := c.larges } else noC
def knownT (t : Nat) : Prop := t = 1 ∨ t = 2 ∨ t = 3 ∨ t = 4 ∨ t = 5 ∨ t = 6 ∨ t = 7 ∨ t = 8 ∨ t = 9 ∨ t = 10 ∨ t = 16 ∨ t = 32
theorem grp_no {t : Nat} (h : ¬ knownT t) (c : AtC) : grp t c = noC := by
  unfold knownT at h
  unfold grp
  rw [if_neg (by omega), if_neg (by omega), if_neg (by omega), if_neg (by omega), if_neg (by omega), if_neg (by omega), if_neg (by omega), if_neg (by omega), if_neg (by omega), if_neg (by omega), if_neg (by omega), if_neg (by omega)]
theorem tab_is {t : Nat} (h : knownT t) (v : ByteArray) (four : Bool) (c d : AtC) : (tab t v four c).2 = (tab t v four d).2 := by
  rcases h with rfl | rfl | rfl | rfl | rfl | rfl | rfl | rfl | rfl | rfl | rfl | rfl
  · rw [tab_1, tab_1]; unfold take1; split <;> rfl
  · rw [tab_2, tab_2]; unfold take2; split <;> rfl
  · rfl
  · rw [tab_4, tab_4]; unfold take4; split <;> rfl
  · rw [tab_5, tab_5]; unfold take5; split <;> rfl
  · rfl
  · rw [tab_7, tab_7]; unfold take7; split <;> rfl
  · rw [tab_8, tab_8]; unfold take8; split <;> rfl
  · rw [tab_9, tab_9]; unfold take9; split <;> rfl
  · rw [tab_10, tab_10]; unfold take10; split <;> rfl
  · rw [tab_16, tab_16]; unfold take16; split <;> rfl
  · rw [tab_32, tab_32]; unfold take32; split <;> rfl
theorem grp_cases (P : Nat → Prop) (h1 : P 1) (h2 : P 2) (h3 : P 3) (h4 : P 4) (h5 : P 5) (h6 : P 6) (h7 : P 7) (h8 : P 8) (h9 : P 9) (h10 : P 10) (h16 : P 16) (h32 : P 32) (h0 : ∀ s, ¬ knownT s → P s) (s : Nat) : P s := by
  by_cases h : knownT s
  · rcases h with rfl | rfl | rfl | rfl | rfl | rfl | rfl | rfl | rfl | rfl | rfl | rfl <;> assumption
  · exact h0 s h
theorem tab_other {t : Nat} (h : knownT t) (v : ByteArray) (four : Bool) (c : AtC) (s : Nat) (hs : s ≠ t) : grp s (tab t v four c).1 = grp s c := by
  rcases h with rfl | rfl | rfl | rfl | rfl | rfl | rfl | rfl | rfl | rfl | rfl | rfl
  · rw [tab_1]; unfold take1; split
    · revert hs; refine grp_cases (fun s => s ≠ 1 → grp s _ = grp s c) ?_ ?_ ?_ ?_ ?_ ?_ ?_ ?_ ?_ ?_ ?_ ?_ (fun s hn _ => by rw [grp_no hn, grp_no hn]) s <;> intro hs <;> first | exact absurd rfl hs | rfl
    · rfl
  · rw [tab_2]; unfold take2; split <;> (revert hs; refine grp_cases (fun s => s ≠ 2 → grp s _ = grp s c) ?_ ?_ ?_ ?_ ?_ ?_ ?_ ?_ ?_ ?_ ?_ ?_ (fun s hn _ => by rw [grp_no hn, grp_no hn]) s <;> intro hs <;> first | exact absurd rfl hs | rfl)
  · rw [tab_3]; unfold take3; revert hs; refine grp_cases (fun s => s ≠ 3 → grp s _ = grp s c) ?_ ?_ ?_ ?_ ?_ ?_ ?_ ?_ ?_ ?_ ?_ ?_ (fun s hn _ => by rw [grp_no hn, grp_no hn]) s <;> intro hs <;> first | exact absurd rfl hs | rfl
  · rw [tab_4]; unfold take4; split
    · revert hs; refine grp_cases (fun s => s ≠ 4 → grp s _ = grp s c) ?_ ?_ ?_ ?_ ?_ ?_ ?_ ?_ ?_ ?_ ?_ ?_ (fun s hn _ => by rw [grp_no hn, grp_no hn]) s <;> intro hs <;> first | exact absurd rfl hs | rfl
    · rfl
  · rw [tab_5]; unfold take5; split
    · revert hs; refine grp_cases (fun s => s ≠ 5 → grp s _ = grp s c) ?_ ?_ ?_ ?_ ?_ ?_ ?_ ?_ ?_ ?_ ?_ ?_ (fun s hn _ => by rw [grp_no hn, grp_no hn]) s <;> intro hs <;> first | exact absurd rfl hs | rfl
    · rfl
  · rw [tab_6]; unfold take6; revert hs; refine grp_cases (fun s => s ≠ 6 → grp s _ = grp s c) ?_ ?_ ?_ ?_ ?_ ?_ ?_ ?_ ?_ ?_ ?_ ?_ (fun s hn _ => by rw [grp_no hn, grp_no hn]) s <;> intro hs <;> first | exact absurd rfl hs | rfl
  · rw [tab_7]; unfold take7; split
    · revert hs; refine grp_cases (fun s => s ≠ 7 → grp s _ = grp s c) ?_ ?_ ?_ ?_ ?_ ?_ ?_ ?_ ?_ ?_ ?_ ?_ (fun s hn _ => by rw [grp_no hn, grp_no hn]) s <;> intro hs <;> first | exact absurd rfl hs | rfl
    · rfl
  · rw [tab_8]; unfold take8; split <;> (revert hs; refine grp_cases (fun s => s ≠ 8 → grp s _ = grp s c) ?_ ?_ ?_ ?_ ?_ ?_ ?_ ?_ ?_ ?_ ?_ ?_ (fun s hn _ => by rw [grp_no hn, grp_no hn]) s <;> intro hs <;> first | exact absurd rfl hs | rfl)
  · rw [tab_9]; unfold take9; split
    · revert hs; refine grp_cases (fun s => s ≠ 9 → grp s _ = grp s c) ?_ ?_ ?_ ?_ ?_ ?_ ?_ ?_ ?_ ?_ ?_ ?_ (fun s hn _ => by rw [grp_no hn, grp_no hn]) s <;> intro hs <;> first | exact absurd rfl hs | rfl
    · rfl
  · rw [tab_10]; unfold take10; split
    · rfl
    · revert hs; refine grp_cases (fun s => s ≠ 10 → grp s _ = grp s c) ?_ ?_ ?_ ?_ ?_ ?_ ?_ ?_ ?_ ?_ ?_ ?_ (fun s hn _ => by rw [grp_no hn, grp_no hn]) s <;> intro hs <;> first | exact absurd rfl hs | rfl
  · rw [tab_16]; unfold take16; split <;> (revert hs; refine grp_cases (fun s => s ≠ 16 → grp s _ = grp s c) ?_ ?_ ?_ ?_ ?_ ?_ ?_ ?_ ?_ ?_ ?_ ?_ (fun s hn _ => by rw [grp_no hn, grp_no hn]) s <;> intro hs <;> first | exact absurd rfl hs | rfl)
  · rw [tab_32]; unfold take32; split <;> (revert hs; refine grp_cases (fun s => s ≠ 32 → grp s _ = grp s c) ?_ ?_ ?_ ?_ ?_ ?_ ?_ ?_ ?_ ?_ ?_ ?_ (fun s hn _ => by rw [grp_no hn, grp_no hn]) s <;> intro hs <;> first | exact absurd rfl hs | rfl)
/-- what a raw attribute does to attributes, where none ahead has its type -/
def effC (four internal : Bool) (x : Rw) (c : AtC) : AtC :=
  if x.t.toNat = 14 ∨ x.t.toNat = 15 then c
  else match rowF x.t.toNat with
    | none => c
    | some (b, wrong, inside, _) => if (inside && !internal) = true then c
      else if ((x.f &&& 192).toNat : Int) ≠ b then c
      else (tab x.t.toNat x.v four c).1
/-- what it adds to the verdict -/
def effV (four internal : Bool) (x : Rw) : Option Vd :=
  if x.t.toNat = 14 ∨ x.t.toNat = 15 then none
  else match rowF x.t.toNat with
    | none => if x.f &&& 128 = 0 then some ⟨3, 3, 2⟩ else none
    | some (b, wrong, inside, _) => if (inside && !internal) = true then some ⟨1, 0, 0⟩
      else if ((x.f &&& 192).toNat : Int) ≠ b then some ⟨2, 0, 0⟩
      else if (tab x.t.toNat x.v four noC).2 = true then none else some ⟨wrong, 0, 0⟩
def jo (v : Vd) : Option Vd → Vd
  | none => v
  | some x => judgeF v x
theorem step_unmet {four internal : Bool} {met : List UInt8} {c : AtC} {v : Vd} {x : Rw} (h : met.contains x.t = false) : readStep tab four internal met c v x = (effC four internal x c, jo v (effV four internal x)) := by
  unfold readStep effC effV
  by_cases h1 : x.t.toNat = 14 ∨ x.t.toNat = 15
  · rw [if_pos h1, if_pos h1, if_pos h1, h]
    rfl
  · rw [if_neg h1, if_neg h1, if_neg h1, h]
    rw [if_neg (by simp)]
    cases hr : rowF x.t.toNat with
    | none =>
      dsimp only
      split <;> rfl
    | some p =>
      obtain ⟨b, wr, i, f⟩ := p
      dsimp only
      split
      · rfl
      · split
        · rfl
        · rw [tab_is (row_known hr) x.v four c noC]
          split <;> rfl
/-- of unlike types, and none that is laid elsewhere -/
def Unlike : List Rw → Prop
  | [] => True
  | x :: r => ¬ (x.t.toNat = 14 ∨ x.t.toNat = 15) ∧ (∀ y ∈ r, y.t ≠ x.t) ∧ Unlike r
theorem Unlike.some {L : List Rw} (h : Unlike L) : ∀ x ∈ L, ¬ (x.t.toNat = 14 ∨ x.t.toNat = 15) := by
  induction L with
  | nil => intro x hx; cases hx
  | cons a r ih =>
    intro x hx
    rcases List.mem_cons.1 hx with rfl | hx
    · exact h.1
    · exact ih h.2.2 x hx
end Go.Proofs.YtkcojblflebomaaGreat
