/-
  Timers: the program's wheel and the reference's list side by side: what each step answers, as a relation on the list. Conditions: sizes.
-/
import Derived.Test.YtcgegaahdbnacaaWhR
set_option linter.unusedVariables false
set_option linter.unusedSimpArgs false
namespace Go.Proofs.Ytcgegaahdbnacaa
open Go.RowKit Go.MapKept Go.Shelf Go.Lib
open Go.Maps (Keyed)

/-- both in memory -/
structure PW (w wr : World) (SL : List Tm) (v : Value) (L : List Tm) : Prop where
  wh : ∃ S, WheelAt wr (w.heap.size + 1) w.heap.size S ∧ S.Perm SL
  sees : Sees wr (w.heap.size + 2) v L
  below : Below w.heap.size w wr
  size : w.heap.size + 2 ≤ wr.heap.size
section
variable {w wr w' : World} {SL L : List Tm} {v : Value}
theorem PW.mem (h : PW w wr SL v L) (hb : Below wr.heap.size wr w') : PW w w' SL v L := by
  obtain ⟨S, h1, h2⟩ := h.wh
  exact ⟨⟨S, h1.below hb (Nat.le_refl _), h2⟩, h.sees.below hb, h.below.trans (hb.mono h.below.size), Nat.le_trans h.size hb.size⟩
theorem PW.alloc (h : PW w wr SL v L) (o : Obj) : PW w (wr.alloc o) SL v L := h.mem ((Below.refl _ _).alloc (Nat.le_refl _) o)
theorem PW.grown {S SL' : List Tm} (h : PW w wr SL v L) (hg : GrownX (fun i => i = w.heap.size) wr w') (hw : WheelAt w' (w.heap.size + 1) w.heap.size S) (hp : S.Perm SL') : PW w w' SL' v L :=
  ⟨⟨S, hw, hp⟩, h.sees.grownX hg (fun g hg => by omega), hg.below h.below (fun i hi => by omega) h.below.size, Nat.le_trans h.size hg.size⟩
theorem PW.list {v' : Value} {L' : List Tm} (h : PW w wr SL v L) (hf : FiredAt w' wr.heap.size v' L') (hb : Below wr.heap.size wr w') : PW w w' SL v' L' :=
  ⟨(h.mem hb).wh, (Sees.of_own hf).lower h.size, (h.mem hb).below, (h.mem hb).size⟩
theorem PW.keys (h : PW w wr SL v L) : SL.Pairwise (fun p q => p.k ≠ q.k) := by
  obtain ⟨S, h1, h2⟩ := h.wh
  exact (h2.pairwise_iff (fun a => fun e => a e.symm)).1 h1.keys
theorem PW.len (h : PW w wr SL v L) : SL.length ≤ 1024 := by
  obtain ⟨S, h1, h2⟩ := h.wh
  rw [← h2.length_eq]
  exact h1.len
theorem PW.ok (h : PW w wr SL v L) : ∀ p ∈ SL, p.k.Ok ∧ p.at_ ≤ 1099511627776 := by
  obtain ⟨S, h1, h2⟩ := h.wh
  exact fun p hp => h1.ok p (h2.mem_iff.2 hp)
end
theorem first_key {L : List Tm} {k : WK} (h : ∃ p ∈ L, p.k = k) : ∃ (i : Nat) (p : Tm), L[i]? = some p ∧ p.k = k ∧ ∀ j, j < i → ∀ q, L[j]? = some q → q.k ≠ k := by
  classical
  induction L with
  | nil => obtain ⟨p, hp, _⟩ := h; cases hp
  | cons a r ih =>
    by_cases ha : a.k = k
    · exact ⟨0, a, rfl, ha, fun j hj => absurd hj (by omega)⟩
    · obtain ⟨p, hp, hP⟩ := h
      rcases List.mem_cons.1 hp with rfl | hp
      · exact absurd hP ha
      · obtain ⟨i, q, h1, h2, h3⟩ := ih ⟨p, hp, hP⟩
        refine ⟨i + 1, q, by simpa using h1, h2, fun j hj x hx => ?_⟩
        cases j with
        | zero => simp at hx; subst hx; exact ha
        | succ j => exact h3 j (by omega) x (by simpa using hx)

def AtRel (L : List Tm) (k : WK) (n : Nat) (t : Bool) : Prop := (⟨n, k⟩ ∈ L ∧ t = true) ∨ ((∀ p ∈ L, p.k ≠ k) ∧ n = 0 ∧ t = false)
theorem AtRel.uniq {L : List Tm} {k : WK} {n1 n2 : Nat} {t1 t2 : Bool} (hp : L.Pairwise (fun p q => p.k ≠ q.k)) (h1 : AtRel L k n1 t1) (h2 : AtRel L k n2 t2) : n1 = n2 ∧ t1 = t2 := by
  rcases h1 with ⟨a1, rfl⟩ | ⟨a1, rfl, rfl⟩ <;> rcases h2 with ⟨a2, rfl⟩ | ⟨a2, rfl, rfl⟩
  · obtain ⟨i, hi⟩ := List.getElem?_of_mem a1
    obtain ⟨j, hj⟩ := List.getElem?_of_mem a2
    have := key_one hp hi hj rfl
    subst this
    rw [hi] at hj
    injection hj with hj
    injection hj with hj
    exact ⟨hj, rfl⟩
  · exact absurd rfl (a2 _ a1)
  · exact absurd rfl (a1 _ a2)
  · exact ⟨rfl, rfl⟩
def AtPost (w wr : World) (SL : List Tm) (v : Value) (L M : List Tm) (k : WK) (e : Ending) (w' : World) : Prop :=
  ∃ n t, AtRel M k n t ∧ e = .returned (.tuple #[.int .u64 (n : Nat), .bool t]) ∧ PW w w' SL v L ∧ Below wr.heap.size wr w'
section
variable {w wr : World} {SL L : List Tm} {v : Value}
theorem p_at (k : WK) (hk : k.Ok) (h : PW w wr SL v L) :
    Calls Try.prog 12 #[.pointer (some ⟨w.heap.size + 1, 0, none⟩), k.v] wr (AtPost w wr SL v L SL k) := by
  obtain ⟨S, h1, h2⟩ := h.wh
  by_cases hin : ∃ p ∈ S, p.k = k
  · obtain ⟨p, hp, rfl⟩ := hin
    obtain ⟨i, hi⟩ := List.getElem?_of_mem hp
    refine (wat_some _ _ _ i S p h1 hi).mono ?_
    rintro e w' ⟨rfl, hb⟩
    exact ⟨_, true, .inl ⟨h2.mem_iff.1 hp, rfl⟩, rfl, h.mem hb, hb⟩
  · have hno : ∀ p ∈ S, p.k ≠ k := fun p hp e => hin ⟨p, hp, e⟩
    refine (wat_none _ _ _ S k h1 hk hno).mono ?_
    rintro e w' ⟨rfl, hb⟩
    exact ⟨0, false, .inr ⟨fun p hp => hno p (h2.mem_iff.2 hp), rfl, rfl⟩, rfl, h.mem hb, hb⟩
theorem r_at (k : WK) (hl : L.length ≤ 1024) (h : PW w wr SL v L) :
    Calls Try.prog 20 #[v, k.v] wr (AtPost w wr SL v L L k) := by
  by_cases hin : ∃ p ∈ L, p.k = k
  · obtain ⟨i, p, hi, rfl, hf⟩ := first_key hin
    refine (rat_some L _ v i p wr h.sees (by omega) hi (fun j hj q hq => hf j hj q hq)).mono ?_
    rintro e w' ⟨rfl, hb⟩
    exact ⟨_, true, .inl ⟨List.mem_of_getElem? hi, rfl⟩, rfl, h.mem hb, hb⟩
  · have hno : ∀ p ∈ L, p.k ≠ k := fun p hp e => hin ⟨p, hp, e⟩
    refine (rat_none L _ v k wr h.sees (by omega) hno).mono ?_
    rintro e w' ⟨rfl, hb⟩
    exact ⟨0, false, .inr ⟨hno, rfl, rfl⟩, rfl, h.mem hb, hb⟩
end

/-- what Arm answers, and the list behind it, in order -/
def ArRel (L : List Tm) (k : WK) (n : Nat) (L' : List Tm) (c : Nat) : Prop :=
  ((¬ KMay k ∨ 1099511627776 < n) ∧ c = 2 ∧ L' = L) ∨ ((KMay k ∧ n ≤ 1099511627776) ∧ (∀ p ∈ L, p.k ≠ k) ∧ L.length = 1024 ∧ c = 7 ∧ L' = L) ∨
  ((KMay k ∧ n ≤ 1099511627776) ∧ ((∃ p ∈ L, p.k = k) ∨ L.length < 1024) ∧ c = 0 ∧ L'.Perm (canT L k ++ [⟨n, k⟩]))
theorem ArRel.uniq {L L1 L2 : List Tm} {k : WK} {n c1 c2 : Nat} (h1 : ArRel L k n L1 c1) (h2 : ArRel L k n L2 c2) : c1 = c2 ∧ L1.Perm L2 := by
  rcases h1 with ⟨a1, rfl, rfl⟩ | ⟨⟨a1, a1'⟩, b1, d1, rfl, rfl⟩ | ⟨⟨a1, a1'⟩, b1, rfl, e1⟩ <;> rcases h2 with ⟨a2, rfl, rfl⟩ | ⟨⟨a2, a2'⟩, b2, d2, rfl, rfl⟩ | ⟨⟨a2, a2'⟩, b2, rfl, e2⟩
  any_goals (exact ⟨rfl, List.Perm.refl _⟩)
  any_goals (exfalso; rcases a1 with a1 | a1 <;> first | exact a1 a2 | omega)
  any_goals (exfalso; rcases a2 with a2 | a2 <;> first | exact a2 a1 | omega)
  · exfalso
    rcases b2 with ⟨p, hp, e⟩ | b2
    · exact b1 p hp e
    · omega
  · exfalso
    rcases b1 with ⟨p, hp, e⟩ | b1
    · exact b2 p hp e
    · omega
  · exact ⟨rfl, e1.trans e2.symm⟩
theorem putT_canT (S : List Tm) (x : Tm) : putT S x = canT S x.k ++ [x] := rfl
theorem canT_perm {S S' : List Tm} (k : WK) (h : S.Perm S') : (canT S k).Perm (canT S' k) := by
  unfold canT
  exact h.filter _
def ArPost (w wr : World) (SL : List Tm) (v : Value) (L : List Tm) (k : WK) (n : Nat) (e : Ending) (w' : World) : Prop :=
  ∃ M c, ArRel SL k n M c ∧ e = .returned (.int .i64 (c : Nat)) ∧ PW w w' M v L ∧ GrownX (fun i => i = w.heap.size) wr w'
section
variable {w wr : World} {SL L : List Tm} {v : Value}
theorem p_arm (k : WK) (n : Nat) (hk : k.Ok) (h : PW w wr SL v L) :
    Calls Try.prog 18 #[.pointer (some ⟨w.heap.size + 1, 0, none⟩), k.v, .int .u64 n] wr (ArPost w wr SL v L k n) := by
  obtain ⟨S, h1, h2⟩ := h.wh
  by_cases hm : KMay k ∧ n ≤ 1099511627776
  · by_cases hin : (∃ p ∈ S, p.k = k) ∨ S.length < 1024
    · refine (arm_put _ _ _ S k n h1 hk hm.1 hm.2 hin).mono ?_
      rintro e w' ⟨rfl, S', hW, hp, _, hg⟩
      refine ⟨canT SL k ++ [⟨n, k⟩], 0, .inr (.inr ⟨hm, ?_, rfl, List.Perm.refl _⟩), rfl, h.grown hg hW (hp.trans ?_), hg⟩
      · rcases hin with ⟨p, hp, e⟩ | hin
        · exact Or.inl ⟨p, h2.mem_iff.1 hp, e⟩
        · exact Or.inr (by rw [← h2.length_eq]; exact hin)
      · rw [putT_canT]
        exact (canT_perm k h2).append_right _
    · have hno : ∀ p ∈ S, p.k ≠ k := fun p hp e => hin (Or.inl ⟨p, hp, e⟩)
      have hfull : S.length = 1024 := by
        have h3 : ¬ S.length < 1024 := fun e => hin (Or.inr e)
        have := h1.len
        omega
      refine (warm_full _ _ _ S k n h1 hk hm.1 hm.2 hno hfull).mono ?_
      rintro e w' ⟨rfl, hb⟩
      exact ⟨SL, 7, .inr (.inl ⟨hm, fun p hp => hno p (h2.mem_iff.2 hp), by rw [← h2.length_eq]; exact hfull, rfl, rfl⟩), rfl, h.mem hb, GrownX.of_below hb⟩
  · have hbad : ¬ KMay k ∨ 1099511627776 < n := by
      by_cases e : KMay k
      · exact Or.inr (by have : ¬ n ≤ 1099511627776 := fun h => hm ⟨e, h⟩; omega)
      · exact Or.inl e
    refine (warm_bad _ _ _ S k n h1 hk hbad).mono ?_
    rintro e w' ⟨rfl, hb⟩
    exact ⟨SL, 2, .inl ⟨hbad, rfl, rfl⟩, rfl, h.mem hb, GrownX.of_below hb⟩
def RArPost' (w : World) (SL L : List Tm) (k : WK) (n : Nat) (e : Ending) (w' : World) : Prop :=
  ∃ v' M c, ArRel L k n M c ∧ Ord M ∧ e = .returned (.tuple #[v', .int .i64 (c : Nat)]) ∧ PW w w' SL v' M
theorem r_arm (k : WK) (n : Nat) (hk : k.Ok) (hl : L.length ≤ 1024) (ho : Ord L) (h : PW w wr SL v L) :
    Calls Try.prog 21 #[v, k.v, .int .u64 n] wr (RArPost' w SL L k n) := by
  by_cases hm : KMay k ∧ n ≤ 1099511627776
  · by_cases hin : ∃ p ∈ L, p.k = k
    · refine (rarm_ok1 L _ v k n wr h.sees hl ho hk hm.1 hm.2 hin).mono ?_
      rintro e w' ⟨v', M, rfl, hM1, hM2, hf, hb⟩
      exact ⟨v', M, 0, .inr (.inr ⟨hm, Or.inl hin, rfl, hM2⟩), hM1, rfl, h.list hf hb⟩
    · have hno : ∀ p ∈ L, p.k ≠ k := fun p hp e => hin ⟨p, hp, e⟩
      by_cases hlt : L.length < 1024
      · refine (rarm_ok2 L _ v k n wr h.sees hl ho hk hm.1 hm.2 ⟨hno, hlt⟩).mono ?_
        rintro e w' ⟨v', M, rfl, hM1, hM2, hf, hb⟩
        exact ⟨v', M, 0, .inr (.inr ⟨hm, Or.inr hlt, rfl, hM2⟩), hM1, rfl, h.list hf hb⟩
      · refine (rarm_full L _ v k n wr h.sees hk hm.1 hm.2 hno (by omega)).mono ?_
        rintro e w' ⟨rfl, hb⟩
        exact ⟨v, L, 7, .inr (.inl ⟨hm, hno, by omega, rfl, rfl⟩), ho, rfl, h.mem hb⟩
  · have hbad : ¬ KMay k ∨ 1099511627776 < n := by
      by_cases e : KMay k
      · exact Or.inr (by have : ¬ n ≤ 1099511627776 := fun h => hm ⟨e, h⟩; omega)
      · exact Or.inl e
    refine (rarm_bad L _ v k n wr h.sees hk hbad).mono ?_
    rintro e w' ⟨rfl, hb⟩
    exact ⟨v, L, 2, .inl ⟨hbad, rfl, rfl⟩, ho, rfl, h.mem hb⟩

open Classical in
def CcPost (w wr : World) (SL : List Tm) (v : Value) (L : List Tm) (k : WK) (e : Ending) (w' : World) : Prop :=
  e = .returned (.bool (decide (∃ p ∈ SL, p.k = k))) ∧ PW w w' (canT SL k) v L ∧ GrownX (fun i => i = w.heap.size) wr w'
theorem p_cancel (k : WK) (hk : k.Ok) (h : PW w wr SL v L) :
    Calls Try.prog 13 #[.pointer (some ⟨w.heap.size + 1, 0, none⟩), k.v] wr (CcPost w wr SL v L k) := by
  classical
  obtain ⟨S, h1, h2⟩ := h.wh
  by_cases hin : ∃ p ∈ S, p.k = k
  · obtain ⟨p, hp, rfl⟩ := hin
    obtain ⟨i, hi⟩ := List.getElem?_of_mem hp
    refine (wcancel_some _ _ _ i S p h1 hi).mono ?_
    rintro e w' ⟨rfl, hW, hg⟩
    refine ⟨?_, h.grown hg hW ?_, hg⟩
    · rw [decide_eq_true ⟨p, h2.mem_iff.1 hp, rfl⟩]
    · have g1 := perm_eraseIdx S i _ hi
      have g5 : (p :: S.eraseIdx i).Pairwise (fun p q => p.k ≠ q.k) := (g1.pairwise_iff (fun a => fun e => a e.symm)).2 h1.keys
      have g6 := (List.pairwise_cons.1 g5).1
      have g7 : canT (S.eraseIdx i) p.k = S.eraseIdx i := canT_no (fun q hq e => g6 q hq e.symm)
      have g8 : (canT (p :: S.eraseIdx i) p.k).Perm (canT SL p.k) := canT_perm p.k (g1.trans h2)
      have g9 : canT (p :: S.eraseIdx i) p.k = canT (S.eraseIdx i) p.k := by simp [canT]
      rw [g9, g7] at g8
      exact g8
  · have hno : ∀ p ∈ S, p.k ≠ k := fun p hp e => hin ⟨p, hp, e⟩
    have hno2 : ∀ p ∈ SL, p.k ≠ k := fun p hp => hno p (h2.mem_iff.2 hp)
    refine (wcancel_none _ _ _ S k h1 hk hno).mono ?_
    rintro e w' ⟨rfl, hW, hg⟩
    refine ⟨?_, h.grown hg hW (by rw [canT_no hno2]; exact h2), hg⟩
    rw [decide_eq_false (fun ⟨p, hp, e⟩ => hno2 p hp e)]
def RcPost (w : World) (SL M : List Tm) (e : Ending) (w' : World) : Prop := ∃ v', e = .returned v' ∧ PW w w' SL v' M
theorem r_cancel (k : WK) (hl : L.length ≤ 1024) (h : PW w wr SL v L) :
    Calls Try.prog 22 #[v, k.v] wr (RcPost w SL (canT L k)) := by
  refine (rcan_any L _ v k wr h.sees (by omega)).mono ?_
  rintro e w' ⟨v', rfl, hf, hb⟩
  exact ⟨v', rfl, h.list hf hb⟩
theorem r_drop (peer : ByteArray) (hl : L.length ≤ 1024) (h : PW w wr SL v L) :
    Calls Try.prog 25 #[v, .string peer] wr (fun e w' => RcPost w SL (peerL L peer) e w' ∧ Below wr.heap.size wr w') := by
  refine (rdrop_any L _ v peer wr h.sees (by omega)).mono ?_
  rintro e w' ⟨v', rfl, hf, hb⟩
  exact ⟨⟨v', rfl, h.list hf hb⟩, hb⟩
def DrPost (w : World) (SL : List Tm) (v : Value) (L : List Tm) (peer : ByteArray) (e : Ending) (w' : World) : Prop :=
  ∃ c : Nat, c + (peerL SL peer).length = SL.length ∧ e = .returned (.int .i64 c) ∧ PW w w' (peerL SL peer) v L
theorem p_drop (peer : ByteArray) (h : PW w wr SL v L) :
    Calls Try.prog 15 #[.pointer (some ⟨w.heap.size + 1, 0, none⟩), .string peer] wr (DrPost w SL v L peer) := by
  obtain ⟨S, h1, h2⟩ := h.wh
  refine (wdrop_any _ _ _ peer S h1).mono ?_
  rintro e w' ⟨K, rfl, hW, hk, hg⟩
  have hk2 : K.Perm (peerL SL peer) := hk.trans (h2.filter _)
  refine ⟨_, ?_, rfl, h.grown hg hW hk2⟩
  have := parts_len (List.Perm.refl _) hk
  rw [← hk2.length_eq, ← h2.length_eq]
  exact this
/-- what is due, in order, and what is left -/
def TkPost (w wr : World) (SL : List Tm) (v : Value) (L : List Tm) (now : Nat) (e : Ending) (w' : World) : Prop :=
  ∃ u O, e = .returned u ∧ Ord O ∧ O.Perm (dueL now SL) ∧ Sees w' wr.heap.size u O ∧ PW w w' (restL now SL) v L ∧ GrownX (fun i => i = w.heap.size) wr w'
theorem p_take (now : Nat) (h : PW w wr SL v L) :
    Calls Try.prog 8 #[.pointer (some ⟨w.heap.size + 1, 0, none⟩), .int .u64 now] wr (TkPost w wr SL v L now) := by
  obtain ⟨S, h1, h2⟩ := h.wh
  refine (wtake_any _ _ _ now S h1).mono ?_
  rintro e w' ⟨u, O, K, rfl, ho1, ho2, hW, hk, hf, hg⟩
  exact ⟨u, O, rfl, ho1, ho2.trans (h2.filter _), Sees.of_own hf, h.grown hg hW (hk.trans (h2.filter _)), hg⟩
def RtPost (w wr : World) (SL L : List Tm) (now : Nat) (e : Ending) (w' : World) : Prop :=
  ∃ v1 v2, e = .returned (.tuple #[v1, v2]) ∧ Sees w' (w.heap.size + 2) v1 (dueL now L) ∧ PW w w' SL v2 (restL now L) ∧ Below wr.heap.size wr w'
theorem r_take (now : Nat) (hnow : now < 18446744073709551616) (hl : L.length ≤ 1024) (ho : Ord L) (h : PW w wr SL v L) :
    Calls Try.prog 23 #[v, .int .u64 now] wr (RtPost w wr SL L now) := by
  refine (rtake_any L _ v now wr h.sees (by omega) hnow).mono ?_
  rintro e w' ⟨n, v1, v2, hn, h1, h2, rfl, s1, s2, hb⟩
  obtain ⟨e1, e2⟩ := due_take ho hn h1 h2
  rw [e1] at s1
  rw [e2] at s2
  exact ⟨v1, v2, rfl, s1, ⟨(h.mem hb).wh, s2, (h.mem hb).below, (h.mem hb).size⟩, hb⟩
/-- the first one's tick -/
def NxPost (w : World) (SL : List Tm) (v : Value) (L : List Tm) (e : Ending) (w' : World) : Prop :=
  ((L = [] ∧ e = .returned (.tuple #[.int .u64 0, .bool false])) ∨ (∃ x, L[0]? = some x ∧ e = .returned (.tuple #[.int .u64 (x.at_ : Nat), .bool true]))) ∧ PW w w' SL v L
theorem p_next (hSL : SL.Perm L) (ho : Ord L) (h : PW w wr SL v L) :
    Calls Try.prog 14 #[.pointer (some ⟨w.heap.size + 1, 0, none⟩)] wr (NxPost w SL v L) := by
  obtain ⟨S, h1, h2⟩ := h.wh
  refine (wnext_any _ _ _ S h1).mono ?_
  rintro e w' ⟨hc, hb⟩
  refine ⟨?_, h.mem hb⟩
  have hp := h2.trans hSL
  rcases hc with ⟨rfl, rfl⟩ | ⟨n, ⟨p, hpm, hpa⟩, hn, rfl⟩
  · exact Or.inl ⟨hp.nil_eq.symm, rfl⟩
  · cases L with
    | nil => exact absurd (hp.mem_iff.1 hpm) (by simp)
    | cons x r =>
      refine Or.inr ⟨x, rfl, ?_⟩
      have h3 : n ≤ x.at_ := hn x (hp.mem_iff.2 (List.mem_cons_self ..))
      have h4 : x.at_ ≤ n := by
        rcases List.mem_cons.1 (hp.mem_iff.1 hpm) with rfl | hr
        · omega
        · have := tlt_at ((List.pairwise_cons.1 ho).1 p hr)
          omega
      rw [show x.at_ = n by omega]
theorem p_len (h : PW w wr SL v L) : Calls Try.prog 9 #[.pointer (some ⟨w.heap.size + 1, 0, none⟩)] wr fun e w' => e = .returned (.int .i64 SL.length) ∧ w' = wr := by
  obtain ⟨S, h1, h2⟩ := h.wh
  rw [← h2.length_eq]
  exact wlen_any _ _ _ S h1
end
end Go.Proofs.Ytcgegaahdbnacaa
