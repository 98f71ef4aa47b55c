/-
  Several texts in one.
-/
import Derived.Test.YtkcojblflebomaaGreatNR25
import Derived.Test.YtkcojblflebomaaGreatNR4
import Derived.Test.YtkcojblflebomaaGreatNR19
set_option linter.unusedVariables false
set_option linter.unusedSimpArgs false
namespace Go.Proofs.YtkcojblflebomaaGreat
open Go.RowKit Go.MapKept Go.Shelf
open Go.Lib hiding intOf
open Go.Sort hiding Below

/-- one more, in its place -/
def insR {α : Type} [DecidableEq α] (lt : α → α → Bool) (x : α) : List α → List α
  | [] => [x]
  | a :: r => if lt a x = true then a :: insR lt x r else if a = x then a :: r else x :: a :: r
def insAll {α : Type} [DecidableEq α] (lt : α → α → Bool) : List α → List α → List α
  | acc, [] => acc
  | acc, x :: r => insAll lt (insR lt x acc) r
theorem insR_mem {α : Type} [DecidableEq α] {lt : α → α → Bool} {x y : α} : ∀ l : List α, y ∈ insR lt x l ↔ y = x ∨ y ∈ l
  | [] => by simp [insR]
  | a :: r => by
    have ih := insR_mem (lt := lt) (x := x) (y := y) r
    unfold insR
    split
    · rw [List.mem_cons, ih, List.mem_cons]
      constructor
      · rintro (h | h | h)
        · exact .inr (.inl h)
        · exact .inl h
        · exact .inr (.inr h)
      · rintro (h | h | h)
        · exact .inr (.inl h)
        · exact .inl h
        · exact .inr (.inr h)
    · split
      · rename_i e
        subst e
        simp
      · simp
theorem insR_head {α : Type} [DecidableEq α] {lt : α → α → Bool} {x b : α} {l : List α} (hx : lt b x = true) (h : riseB lt (b :: l) = true) : ∀ {r}, insR lt x l = r → riseB lt r = true → riseB lt (b :: r) = true := by
  intro r hr hrr
  cases r with
  | nil => rfl
  | cons c t =>
    rw [riseB, Bool.and_eq_true]
    refine ⟨?_, hrr⟩
    cases l with
    | nil =>
      unfold insR at hr
      injection hr with h1 h2
      subst h1
      exact hx
    | cons a q =>
      rw [riseB, Bool.and_eq_true] at h
      unfold insR at hr
      split at hr
      · injection hr with h1 h2
        subst h1
        exact h.1
      · split at hr
        · injection hr with h1 h2
          subst h1
          exact h.1
        · injection hr with h1 h2
          subst h1
          exact hx
theorem insR_rise {α : Type} [DecidableEq α] {lt : α → α → Bool} (ht : ∀ a b, lt b a = false → a = b ∨ lt a b = true) {x : α} : ∀ l : List α, riseB lt l = true → riseB lt (insR lt x l) = true
  | [], _ => rfl
  | a :: r, h => by
    have hr : riseB lt r = true := by
      cases r with
      | nil => rfl
      | cons b q =>
        rw [riseB, Bool.and_eq_true] at h
        exact h.2
    have ih := insR_rise ht (x := x) r hr
    unfold insR
    split
    · rename_i hl
      exact insR_head hl h rfl ih
    · split
      · exact h
      · rename_i hl hne
        rw [riseB, Bool.and_eq_true]
        refine ⟨?_, h⟩
        rcases ht x a (by simpa using hl) with e | e
        · exact absurd e.symm hne
        · exact e
theorem insAll_rise {α : Type} [DecidableEq α] {lt : α → α → Bool} (ht : ∀ a b, lt b a = false → a = b ∨ lt a b = true) : ∀ (l acc : List α), riseB lt acc = true → riseB lt (insAll lt acc l) = true
  | [], acc, h => h
  | x :: r, acc, h => insAll_rise ht r _ (insR_rise ht acc h)
theorem insAll_mem {α : Type} [DecidableEq α] {lt : α → α → Bool} {y : α} : ∀ (l acc : List α), y ∈ insAll lt acc l ↔ y ∈ acc ∨ y ∈ l
  | [], acc => by simp [insAll]
  | x :: r, acc => by
    unfold insAll
    rw [insAll_mem r, insR_mem, List.mem_cons]
    constructor
    · rintro ((h | h) | h)
      · exact .inr (.inl h)
      · exact .inl h
      · exact .inr (.inr h)
    · rintro (h | h | h)
      · exact .inl (.inr h)
      · exact .inl (.inl h)
      · exact .inr h
theorem insAll_snoc {α : Type} [DecidableEq α] {lt : α → α → Bool} (x : α) : ∀ (l acc : List α), insAll lt acc (l ++ [x]) = insR lt x (insAll lt acc l)
  | [], acc => rfl
  | y :: r, acc => insAll_snoc x r _
theorem rise_pairs {α : Type} {lt : α → α → Bool} (hS : SWO lt) : ∀ l : List α, riseB lt l = true → l.Pairwise (fun a b => lt a b = true)
  | [], _ => List.Pairwise.nil
  | [a], _ => List.pairwise_singleton _ _
  | a :: b :: r, h => by
    rw [riseB, Bool.and_eq_true] at h
    have ih := rise_pairs hS (b :: r) h.2
    refine List.Pairwise.cons (fun x hx => ?_) ih
    rcases List.mem_cons.1 hx with rfl | hx
    · exact h.1
    · exact hS.trans a b x h.1 ((List.pairwise_cons.1 ih).1 x hx)
theorem rise_ext {α : Type} {lt : α → α → Bool} (hS : SWO lt) : ∀ (l m : List α), riseB lt l = true → riseB lt m = true → (∀ x, x ∈ l ↔ x ∈ m) → l = m := by
  intro l m hl hm he
  have h1 := rise_pairs hS l hl
  have h2 := rise_pairs hS m hm
  have nd : ∀ {k : List α}, k.Pairwise (fun a b => lt a b = true) → k.Nodup := fun h => h.imp (fun {a b} hab e => by
    subst e
    rw [hS.irrefl] at hab
    cases hab)
  refine List.Perm.eq_of_pairwise (le := fun a b => lt a b = true) (fun a b _ _ h3 h4 => ?_) h1 h2 ((List.perm_ext_iff_of_nodup (nd h1) (nd h2)).2 he)
  have h5 := hS.asymmA h3
  rw [h4] at h5
  cases h5
theorem insAll_dd {α : Type} [DecidableEq α] {lt : α → α → Bool} (hS : SWO lt) (ht : ∀ a b, lt b a = false → a = b ∨ lt a b = true) (l : List α) : insAll lt [] l = dd (srt lt l) :=
  rise_ext hS _ _ (insAll_rise ht l [] rfl) (dd_rise lt ht _ (srt_rise hS l)) (fun x => by
    rw [insAll_mem, dd_mem, srt_mem]
    simp)
theorem insR_at {α : Type} [DecidableEq α] {lt : α → α → Bool} {x : α} (hx : ∀ a, lt a a = false) : ∀ (S : List α) (k : Nat), (∀ y ∈ S.take k, lt y x = true) → (k = S.length ∨ ∃ y, S[k]? = some y ∧ lt y x = false) → insR lt x S = if S[k]? = some x then S else S.take k ++ x :: S.drop k
  | [], k, _, h => by simp [insR]
  | a :: r, 0, _, h => by
    rcases h with h | ⟨y, hy, hl⟩
    · cases h
    · simp only [List.getElem?_cons_zero, Option.some.injEq] at hy
      subst hy
      unfold insR
      rw [if_neg (by simp [hl])]
      simp only [List.getElem?_cons_zero, Option.some.injEq, List.take_zero, List.drop_zero, List.nil_append]
  | a :: r, k + 1, h1, h2 => by
    have ha : lt a x = true := h1 a (by simp)
    have ih := insR_at hx r k (fun y hy => h1 y (by rw [List.take_succ_cons]; exact List.mem_cons_of_mem _ hy)) (by
      rcases h2 with h | ⟨y, hy, hl⟩
      · left
        simpa using h
      · exact .inr ⟨y, by simpa using hy, hl⟩)
    unfold insR
    rw [if_pos ha, ih, List.getElem?_cons_succ]
    split
    · rfl
    · rw [List.take_succ_cons, List.drop_succ_cons, List.cons_append]
theorem insR_len {α : Type} [DecidableEq α] {lt : α → α → Bool} {x : α} : ∀ S : List α, (insR lt x S).length ≤ S.length + 1
  | [] => Nat.le_refl _
  | a :: r => by
    have ih := insR_len (lt := lt) (x := x) r
    unfold insR
    split
    · rw [List.length_cons, List.length_cons]; omega
    · split
      · omega
      · rw [List.length_cons, List.length_cons]; exact Nat.le_refl _
theorem insAll_len {α : Type} [DecidableEq α] {lt : α → α → Bool} : ∀ (l acc : List α), (insAll lt acc l).length ≤ acc.length + l.length
  | [], acc => Nat.le_refl _
  | x :: r, acc => by
    have h1 := insAll_len (lt := lt) r (insR lt x acc)
    have h2 := insR_len (lt := lt) (x := x) acc
    show (insAll lt (insR lt x acc) r).length ≤ _
    rw [List.length_cons]
    omega
/-- one raw attribute, as the document reads it: the attributes, the verdict over it -/
def refC (four internal : Bool) (x : Rw) (c : AtC) : AtC :=
  if x.t.toNat = 14 ∨ x.t.toNat = 15 then c
  else match rowF x.t.toNat with
    | none => c
    | some (b, wrong, inside, _) => if (inside && !internal) = true then c
      else if ((x.f &&& 192).toNat : Int) ≠ b then c
      else if (tab x.t.toNat x.v four c).2 = true then (tab x.t.toNat x.v four c).1 else c
def refV (four internal : Bool) (x : Rw) : Vd := (effV four internal x).getD ⟨0, 0, 0⟩
def refStep (four internal : Bool) (met : List UInt8) (c : AtC) (v : Vd) (x : Rw) : AtC × Vd :=
  if met.contains x.t = true then (c, if x.t.toNat = 14 ∨ x.t.toNat = 15 then judgeF v ⟨3, 3, 1⟩ else v)
  else (refC four internal x c, judgeF v (refV four internal x))
def refF (four internal : Bool) : List UInt8 → AtC → Vd → List Rw → AtC × Vd
  | _, c, v, [] => (c, v)
  | met, c, v, x :: r => refF four internal (x.t :: met) (refStep four internal met c v x).1 (refStep four internal met c v x).2 r
theorem jo_ref {v : Vd} (h : 0 ≤ v.act) (o : Option Vd) : jo v o = judgeF v (o.getD ⟨0, 0, 0⟩) := by
  cases o with
  | none =>
    show v = judgeF v ⟨0, 0, 0⟩
    unfold judgeF
    rw [if_neg (by show ¬ v.act < 0; omega)]
  | some x => rfl
/-- the program's hand and the document's -/
structure Agree (met : List UInt8) (cp cr : AtC) (v : Vd) : Prop where
  a0 : 0 ≤ v.act
  same : v.act < 2 → cp = cr
  six : met.contains 6 = false → cr.atomic = false
theorem tab_bad {t : Nat} {b wr : Int} {i : Bool} {f : FuncId} (h : rowF t = some (b, wr, i, f)) (v : ByteArray) (four : Bool) (c : AtC) (h6 : t = 6 → c.atomic = false) (hb : (tab t v four c).2 = false) : wr = 2 ∨ (tab t v four c).1 = c := by
  rcases row_known h with rfl | rfl | rfl | rfl | rfl | rfl | rfl | rfl | rfl | rfl | rfl | rfl
  · left; have h' := Option.some.inj h; simp only [Prod.mk.injEq] at h'; exact h'.2.1.symm
  · left; have h' := Option.some.inj h; simp only [Prod.mk.injEq] at h'; exact h'.2.1.symm
  · left; have h' := Option.some.inj h; simp only [Prod.mk.injEq] at h'; exact h'.2.1.symm
  · left; have h' := Option.some.inj h; simp only [Prod.mk.injEq] at h'; exact h'.2.1.symm
  · left; have h' := Option.some.inj h; simp only [Prod.mk.injEq] at h'; exact h'.2.1.symm
  · right
    have h1 := h6 rfl
    have h2 : (v.size == 0) = false := hb
    show ({ c with atomic := v.size == 0 } : AtC) = c
    rw [h2, ← h1]
  · right
    rw [tab_7] at hb ⊢
    unfold take7 at hb ⊢
    split
    · rename_i hq
      rw [if_pos hq] at hb
      cases hb
    · rfl
  · left; have h' := Option.some.inj h; simp only [Prod.mk.injEq] at h'; exact h'.2.1.symm
  · left; have h' := Option.some.inj h; simp only [Prod.mk.injEq] at h'; exact h'.2.1.symm
  · left; have h' := Option.some.inj h; simp only [Prod.mk.injEq] at h'; exact h'.2.1.symm
  · left; have h' := Option.some.inj h; simp only [Prod.mk.injEq] at h'; exact h'.2.1.symm
  · left; have h' := Option.some.inj h; simp only [Prod.mk.injEq] at h'; exact h'.2.1.symm
theorem judge_up (v x : Vd) (h : 0 ≤ v.act) : 0 ≤ (judgeF v x).act ∧ v.act ≤ (judgeF v x).act ∧ x.act ≤ (judgeF v x).act := by
  unfold judgeF
  split
  · rename_i h1
    exact ⟨by omega, by omega, Int.le_refl _⟩
  · rename_i h1
    exact ⟨h, Int.le_refl _, by omega⟩
theorem refC_atomic {four internal : Bool} {x : Rw} {c : AtC} (h : x.t.toNat ≠ 6) : (refC four internal x c).atomic = c.atomic := by
  have hg : ∀ d : AtC, grp 6 d = grp 6 c → d.atomic = c.atomic := fun d hq => by
    have q := congrArg AtC.atomic hq
    exact q
  unfold refC
  split
  · rfl
  · cases hr : rowF x.t.toNat with
    | none => rfl
    | some p =>
      obtain ⟨b, wr, i, f⟩ := p
      dsimp only
      split
      · rfl
      · split
        · rfl
        · split
          · exact hg _ (tab_other (row_known hr) _ _ _ _ (fun e => h e.symm))
          · rfl
theorem agree_step {four internal : Bool} {met : List UInt8} {cp cr : AtC} {v : Vd} (h : Agree met cp cr v) (x : Rw) :
    (readStep tab four internal met cp v x).2 = (refStep four internal met cr v x).2 ∧ Agree (x.t :: met) (readStep tab four internal met cp v x).1 (refStep four internal met cr v x).1 (refStep four internal met cr v x).2 := by
  cases hm : met.contains x.t with
  | true =>
    have hr : refStep four internal met cr v x = (cr, if x.t.toNat = 14 ∨ x.t.toNat = 15 then judgeF v ⟨3, 3, 1⟩ else v) := by
      unfold refStep
      rw [if_pos hm]
    have hp : readStep tab four internal met cp v x = (cp, if x.t.toNat = 14 ∨ x.t.toNat = 15 then judgeF v ⟨3, 3, 1⟩ else v) := by
      unfold readStep
      by_cases h1 : x.t.toNat = 14 ∨ x.t.toNat = 15
      · rw [if_pos h1, if_pos hm, if_pos h1]
      · rw [if_neg h1, if_pos hm, if_neg h1]
    rw [hp, hr]
    have h6 : (x.t :: met).contains 6 = false → cr.atomic = false := fun h2 => h.six (by
      rw [List.contains_cons, Bool.or_eq_false_iff] at h2
      exact h2.2)
    refine ⟨rfl, ?_⟩
    show Agree (x.t :: met) cp cr (if x.t.toNat = 14 ∨ x.t.toNat = 15 then judgeF v ⟨3, 3, 1⟩ else v)
    split
    · obtain ⟨q1, q2, q3⟩ := judge_up v ⟨3, 3, 1⟩ h.a0
      have q4 : (3 : Int) ≤ (judgeF v ⟨3, 3, 1⟩).act := q3
      exact ⟨q1, fun h2 => by omega, h6⟩
    · exact ⟨h.a0, h.same, h6⟩
  | false =>
    have hp := step_unmet (four := four) (internal := internal) (c := cp) (v := v) hm
    have hr : refStep four internal met cr v x = (refC four internal x cr, judgeF v (refV four internal x)) := by
      unfold refStep
      rw [hm, if_neg (by simp)]
    have hj : jo v (effV four internal x) = judgeF v (refV four internal x) := jo_ref h.a0 _
    rw [hp, hr, hj]
    refine ⟨rfl, (judge_up v _ h.a0).1, fun h2 => ?_, fun h2 => ?_⟩
    · have h2' : (judgeF v (refV four internal x)).act < 2 := h2
      have hv : v.act < 2 := by have := (judge_up v (refV four internal x) h.a0).2.1; omega
      have hw : (refV four internal x).act < 2 := by have := (judge_up v (refV four internal x) h.a0).2.2; omega
      have e := h.same hv
      subst e
      show effC four internal x cp = refC four internal x cp
      unfold refV effV at hw
      unfold effC refC
      by_cases h1 : x.t.toNat = 14 ∨ x.t.toNat = 15
      · rw [if_pos h1, if_pos h1]
      · rw [if_neg h1] at hw ⊢
        rw [if_neg h1]
        cases hrow : rowF x.t.toNat with
        | none => rfl
        | some p =>
          obtain ⟨b, wr, i, f⟩ := p
          rw [hrow] at hw
          dsimp only at hw ⊢
          by_cases h3 : (i && !internal) = true
          · rw [if_pos h3, if_pos h3]
          · rw [if_neg h3] at hw ⊢
            rw [if_neg h3]
            by_cases h4 : ((x.f &&& 192).toNat : Int) ≠ b
            · rw [if_pos h4, if_pos h4]
            · rw [if_neg h4] at hw ⊢
              rw [if_neg h4]
              cases h5 : (tab x.t.toNat x.v four cp).2 with
              | true => rw [if_pos rfl]
              | false =>
                rw [if_neg (by simp)]
                rw [tab_is (row_known hrow) x.v four noC cp, h5, if_neg (by simp)] at hw
                have h6 : x.t.toNat = 6 → cp.atomic = false := fun e => h.six (by
                  have e2 : x.t = 6 := UInt8.toNat_inj.1 e
                  rw [← e2]
                  exact hm)
                rcases tab_bad hrow x.v four cp h6 h5 with e | e
                · have : wr < 2 := hw
                  omega
                · exact e
    · rw [List.contains_cons, Bool.or_eq_false_iff] at h2
      have h3 : x.t.toNat ≠ 6 := fun e => by
        have e2 : x.t = 6 := UInt8.toNat_inj.1 e
        rw [e2] at h2
        exact absurd h2.1 (by decide)
      show (refC four internal x cr).atomic = false
      rw [refC_atomic h3]
      exact h.six h2.2
theorem agree_all {four internal : Bool} : ∀ (L : List Rw) (met : List UInt8) (cp cr : AtC) (v : Vd), Agree met cp cr v → (readF tab four internal met cp v L).2 = (refF four internal met cr v L).2 ∧ ((refF four internal met cr v L).2.act < 2 → (readF tab four internal met cp v L).1 = (refF four internal met cr v L).1)
  | [], met, cp, cr, v, h => ⟨rfl, h.same⟩
  | x :: r, met, cp, cr, v, h => by
    obtain ⟨h1, h2⟩ := agree_step (four := four) (internal := internal) h x
    show (readF tab four internal (x.t :: met) (readStep tab four internal met cp v x).1 (readStep tab four internal met cp v x).2 r).2 = (refF four internal (x.t :: met) (refStep four internal met cr v x).1 (refStep four internal met cr v x).2 r).2 ∧ ((refF four internal (x.t :: met) (refStep four internal met cr v x).1 (refStep four internal met cr v x).2 r).2.act < 2 → (readF tab four internal (x.t :: met) (readStep tab four internal met cp v x).1 (readStep tab four internal met cp v x).2 r).1 = (refF four internal (x.t :: met) (refStep four internal met cr v x).1 (refStep four internal met cr v x).2 r).1)
    rw [h1]
    exact agree_all r _ _ _ _ h2
/-- both answer the same -/
theorem read_ref (four internal : Bool) (L : List Rw) : (readF tab four internal [] noC ⟨0, 0, 0⟩ L).2 = (refF four internal [] noC ⟨0, 0, 0⟩ L).2 ∧ (if 2 ≤ (readF tab four internal [] noC ⟨0, 0, 0⟩ L).2.act then noC else (readF tab four internal [] noC ⟨0, 0, 0⟩ L).1) = (if 2 ≤ (refF four internal [] noC ⟨0, 0, 0⟩ L).2.act then noC else (refF four internal [] noC ⟨0, 0, 0⟩ L).1) := by
  obtain ⟨h1, h2⟩ := agree_all (four := four) (internal := internal) L [] noC noC ⟨0, 0, 0⟩ ⟨Int.le_refl _, fun _ => rfl, fun _ => rfl⟩
  refine ⟨h1, ?_⟩
  rw [h1]
  by_cases h : 2 ≤ (refF four internal [] noC ⟨0, 0, 0⟩ L).2.act
  · rw [if_pos h, if_pos h]
  · rw [if_neg h, if_neg h, h2 (by omega)]
end Go.Proofs.YtkcojblflebomaaGreat

set_option linter.unusedVariables false
set_option linter.unusedSimpArgs false
namespace Go.Proofs.YtkcojblflebomaaGreat
open Go.RowKit

theorem rvalue_any (t : ByteArray) (w : World) (ht : t.size ≤ 8) :
    Calls Tryz.prog 37 #[.string t] w fun e w' => e = .returned (.int .u64 (beVal t.data.toList : Nat)) ∧ w' = w := by
  go_enter Tryz.func37, Tryz.ntmps37
  go_wp2
  go_loop [3, 4] (fun v i => ∃ k : Nat, k ≤ t.size ∧ i = .int .i64 k ∧ v = .int .u64 (beVal (t.data.toList.take k) : Nat)) (fun _ i => t.size - (intOf i).toNat)
  case atStart => exact ⟨0, Nat.zero_le _, rfl, by simp [beVal]⟩
  case round =>
    obtain ⟨k, hk, rfl, rfl⟩ := hrel
    by_cases hlt : k < t.size
    · have HS := Lib.hid (beVal_step t k hlt)
      have hv := beVal_at t k (by omega)
      have hc := t[k].toNat_lt
      go_wp2
      go_round
      case rel => exact ⟨k + 1, by omega, by go_num, by rw [HS.out]⟩
      case measure => simp [intOf]; omega
    · obtain rfl : t.size = k := by omega
      go_wp2
      go_ret
      exact ⟨ret_int (by rw [List.take_of_length_le (by simp)]), rfl⟩


end Go.Proofs.YtkcojblflebomaaGreat
set_option linter.unusedVariables false
set_option linter.unusedSimpArgs false
namespace Go.Proofs.YtkcojblflebomaaGreat
open Go.RowKit Go.MapKept Go.Shelf
open Go.Lib hiding intOf

theorem Sg.c_eq {s t : Sg} : s.c = t.c ↔ s.kind = t.kind ∧ s.as_ = t.as_ := by
  unfold Sg.c
  exact Prod.mk.injEq _ _ _ _ ▸ Iff.rfl
def sgW (w : World) (s t : Sg) : World := (w.alloc (.cells #[.int .i64 s.kind, .slice s.A s.as_.length s.cap] 61)).alloc (.cells #[.int .i64 t.kind, .slice t.A t.as_.length t.cap] 61)
set_option maxRecDepth 100000 in
set_option maxHeartbeats 8000000 in
theorem same1_any (s t : Sg) (w : World) (h1 : SgOk w s) (h2 : SgOk w t) :
    Calls Tryz.prog 94 #[.agg #[.int .i64 s.kind, .slice s.A s.as_.length s.cap], .agg #[.int .i64 t.kind, .slice t.A t.as_.length t.cap]] w fun e w' => e = .returned (.bool (decide (s.c = t.c))) ∧ Below w.heap.size w w' := by
  have HB : Hid (Below w.heap.size w (sgW w s t)) := ((Below.refl _ _).alloc (Nat.le_refl _) _).alloc (by simp) _
  have HQ := Lib.hid (eq_u32 s.A t.A s.cap t.cap s.as_ t.as_ (sgW w s t) (h1.rd.below HB.out (Nat.le_refl _)) (h2.rd.below HB.out (Nat.le_refl _)) h1.len h2.len h1.cap h2.cap)
  have hsz : w.heap.size ≤ (sgW w s t).heap.size := HB.out.size
  unfold sgW at HB HQ hsz
  clear h1 h2
  by_cases hk : s.kind = t.kind
  · have hq : decide (s.c = t.c) = decide (s.as_ = t.as_) := decide_eq_decide.2 (by rw [Sg.c_eq]; exact ⟨fun h => h.2, fun h => ⟨hk, h⟩⟩)
    rw [hq]
    have he : (s.kind == t.kind) = true := beq_iff_eq.2 hk
    clear hq hk
    generalize decide (s.as_ = t.as_) = r at HQ ⊢
    go_enter Tryz.func94, Tryz.ntmps94
    go_wp2_with fail
    refine HQ.out.mono ?_
    rintro e w1 ⟨rfl, hb⟩
    have HB1 : Hid (Below w.heap.size w w1) := HB.out.trans (hb.mono hsz)
    clear hb
    go_wp2_with fail
    go_ret
    exact ⟨rfl, HB1.out⟩
  · have hq : decide (s.c = t.c) = false := decide_eq_false (fun h => hk (Sg.c_eq.1 h).1)
    rw [hq]
    have he : (s.kind == t.kind) = false := beq_eq_false_iff_ne.2 hk
    clear hq hk HQ
    go_enter Tryz.func94, Tryz.ntmps94
    go_wp2_with fail
    go_ret
    exact ⟨rfl, HB.out⟩
theorem map_alike {l m : List Sg} (hl : l.length = m.length) (h : ∀ j, j < l.length → (l.map Sg.c)[j]? = (m.map Sg.c)[j]?) : l.map Sg.c = m.map Sg.c :=
  list_alike (by rw [List.length_map, List.length_map]; exact hl) (fun j hj => h j (by rwa [List.length_map] at hj))
theorem map_unlike {l m : List Sg} {k : Nat} {s t : Sg} (hx : l[k]? = some s) (hy : m[k]? = some t) (h : s.c ≠ t.c) : ¬ l.map Sg.c = m.map Sg.c :=
  list_unlike (k := k) (by rw [List.getElem?_map, hx]; rfl) (by rw [List.getElem?_map, hy]; rfl) h
theorem map_step {l m : List Sg} {k : Nat} {s t : Sg} (hx : l[k]? = some s) (hy : m[k]? = some t) (h : s.c = t.c) (hE : ∀ j, j < k → (l.map Sg.c)[j]? = (m.map Sg.c)[j]?) : ∀ j, j < k + 1 → (l.map Sg.c)[j]? = (m.map Sg.c)[j]? := fun j hj => by
  by_cases e : j = k
  · subst e
    rw [List.getElem?_map, List.getElem?_map, hx, hy]
    exact congrArg some h
  · exact hE j (by omega)
set_option maxRecDepth 100000 in
set_option maxHeartbeats 8000000 in
theorem eqf_any (A B : Option Addr) (c d : Nat) (l m : List Sg) (w : World) (h1 : SegsOk w A c l) (h2 : SegsOk w B d m) :
    Calls Tryz.prog 93 #[.slice A l.length c, .slice B m.length d, .func (.func 94) #[] #[]] w fun e w' => e = .returned (.bool (decide (l.map Sg.c = m.map Sg.c))) ∧ Below w.heap.size w w' := by
  have H1 := Lib.hid h1
  have H2 := Lib.hid h2
  have l1 := h1.len
  have l2 := h2.len
  have l3 := h1.cap
  have l4 := h2.cap
  have HS1 := Lib.hid same1_any
  clear h1 h2
  by_cases hl : l.length = m.length
  · generalize hr : decide (l.map Sg.c = m.map Sg.c) = r
    have HR := Lib.hid hr
    clear hr
    have HLE := Lib.hid hl
    generalize hm : m.length = mm at hl l2 ⊢
    subst hl
    clear hm
    have z1 : ((l.length : Int) != (l.length : Int)) = false := by simp
    go_enter Tryz.func93, Tryz.ntmps93
    go_wp2_with fail
    go_loopw [17] (fun i wr => ∃ k : Nat, k ≤ l.length ∧ i = .int .i64 k ∧ Hid (Below w.heap.size w wr) ∧ Hid (∀ j, j < k → (l.map Sg.c)[j]? = (m.map Sg.c)[j]?)) (fun i _ => l.length + 1 - (intOf i).toNat)
    case atStart => exact ⟨0, by omega, rfl, Below.refl _ _, fun j hj => by omega⟩
    case round =>
      obtain ⟨k, hk, rfl, HB, HE⟩ := hrel
      by_cases hlt : k < l.length
      · obtain ⟨s, hx⟩ : ∃ x, l[k]? = some x := ⟨l[k], List.getElem?_eq_getElem hlt⟩
        obtain ⟨t, hy⟩ : ∃ y, m[k]? = some y := ⟨m[k]'(by have := HLE.out; omega), List.getElem?_eq_getElem (by have := HLE.out; omega)⟩
        have HO1 := H1.out.below HB.out (Nat.le_refl _)
        have HO2 := H2.out.below HB.out (Nat.le_refl _)
        obtain ⟨b1, o1, rfl, hb1, p0, p1⟩ := sg_cells HO1.rd hx
        obtain ⟨b2, o2, rfl, hb2, q0, q1⟩ := sg_cells HO2.rd hy
        have HBW : Hid (Below wr.heap.size wr (sgW wr s t)) := ((Below.refl _ _).alloc (Nat.le_refl _) _).alloc (by simp) _
        have HCL := Lib.hid (HS1.out s t (sgW wr s t) ((HO1.segs s (List.mem_of_getElem? hx)).below HBW.out (Nat.le_refl _)) ((HO2.segs t (List.mem_of_getElem? hy)).below HBW.out (Nat.le_refl _)))
        have hsz : wr.heap.size ≤ (sgW wr s t).heap.size := HBW.out.size
        have hsw := HB.out.size
        unfold sgW at HBW HCL hsz
        have HX := Lib.hid hx
        have HY := Lib.hid hy
        clear hx hy HO1 HO2
        by_cases hst : s.c = t.c
        · rw [decide_eq_true hst] at HCL
          have HST := Lib.hid hst
          clear hst
          go_wp2_with fail
          refine HCL.out.mono ?_
          rintro e w1 ⟨rfl, hb⟩
          have HB1 : Hid (Below w.heap.size w w1) := HB.out.trans ((HBW.out.trans (hb.mono hsz)).mono hsw)
          clear hb
          go_wp2_with fail
          exact ⟨⟨k + 1, by omega, by go_num, HB1.out, map_step HX.out HY.out HST.out HE.out⟩, by simp [intOf]; omega⟩
        · rw [decide_eq_false hst] at HCL
          obtain rfl : r = false := by rw [← HR.out]; exact decide_eq_false (map_unlike HX.out HY.out hst)
          clear hst
          go_wp2_with fail
          refine HCL.out.mono ?_
          rintro e w1 ⟨rfl, hb⟩
          have HB1 : Hid (Below w.heap.size w w1) := HB.out.trans ((HBW.out.trans (hb.mono hsz)).mono hsw)
          clear hb
          go_wp2_with fail
          go_ret
          exact ⟨rfl, HB1.out⟩
      · obtain rfl : k = l.length := by omega
        obtain rfl : r = true := by rw [← HR.out]; exact decide_eq_true (map_alike HLE.out HE.out)
        go_wp2_with fail
        go_ret
        exact ⟨rfl, HB.out⟩
  · have hr : decide (l.map Sg.c = m.map Sg.c) = false := decide_eq_false_iff_not.2 (fun e => hl (by rw [← List.length_map Sg.c, e, List.length_map]))
    rw [hr]
    have hne : ((l.length : Int) == (m.length : Int)) = false := by rw [beq_eq_false_iff_ne]; omega
    have hnb : ((l.length : Int) != (m.length : Int)) = true := by simp [bne, hne]
    clear hr hl
    go_enter Tryz.func93, Tryz.ntmps93
    go_wp2_with fail
    go_ret
    exact ⟨rfl, Below.refl _ _⟩
set_option maxHeartbeats 4000000 in
theorem psame_any (A B : Option Addr) (c d : Nat) (l m : List Sg) (w : World) (h1 : SegsOk w A c l) (h2 : SegsOk w B d m) :
    Calls Tryz.prog 44 #[.slice A l.length c, .slice B m.length d] w fun e w' => e = .returned (.bool (decide (l.map Sg.c = m.map Sg.c))) ∧ Below w.heap.size w w' := by
  have HQ := Lib.hid (eqf_any A B c d l m w h1 h2)
  clear h1 h2
  generalize decide (l.map Sg.c = m.map Sg.c) = r at HQ ⊢
  go_enter Tryz.func44, Tryz.ntmps44
  go_wp2_with fail
  refine HQ.out.mono ?_
  rintro e w1 ⟨rfl, hb⟩
  have HB := Lib.hid hb
  clear hb
  go_wp2_with fail
  go_ret
  exact ⟨rfl, HB.out⟩

end Go.Proofs.YtkcojblflebomaaGreat
