/-
  The plain law: which one is best hangs on no order. Conditions: none; plain lemmas.
-/
import Derived.Test.YtoamigfjpcniaaaDeT
set_option linter.unusedVariables false
set_option linter.unusedSimpArgs false
namespace Go.Proofs.Ytoamigfjpcniaaa
open Go.Lib hiding intOf

/-- a weak order -/
structure WO {α : Type} (c : α → α → Int) : Prop where
  refl : ∀ x, c x x ≤ 0
  anti : ∀ x y, 0 < c x y ↔ c y x < 0
  trans : ∀ x y z, c x y ≤ 0 → c y z ≤ 0 → c x z ≤ 0
theorem ci_pos (x y : Int) : 0 < Lib.compareInt x y ↔ y < x := by unfold Lib.compareInt; repeat' split <;> omega
theorem ci_neg (x y : Int) : Lib.compareInt x y < 0 ↔ x < y := by unfold Lib.compareInt; repeat' split <;> omega
theorem ci_le (x y : Int) : Lib.compareInt x y ≤ 0 ↔ x ≤ y := by unfold Lib.compareInt; repeat' split <;> omega
theorem wo_int {α : Type} (f : α → Int) : WO fun x y => Lib.compareInt (f x) (f y) :=
  ⟨fun x => (ci_le _ _).2 (Int.le_refl _), fun x y => by rw [ci_pos, ci_neg], fun x y z h1 h2 => (ci_le _ _).2 (Int.le_trans ((ci_le _ _).1 h1) ((ci_le _ _).1 h2))⟩
theorem wo_down {α : Type} (f : α → Int) : WO fun x y => Lib.compareInt (f y) (f x) :=
  ⟨fun x => (ci_le _ _).2 (Int.le_refl _), fun x y => by rw [ci_pos, ci_neg], fun x y z h1 h2 => (ci_le _ _).2 (Int.le_trans ((ci_le _ _).1 h2) ((ci_le _ _).1 h1))⟩
theorem cb_refl : ∀ a : List UInt8, Lib.compareBytes a a = 0
  | [] => rfl
  | x :: a => by unfold Lib.compareBytes; rw [if_neg (UInt8.lt_irrefl x), if_neg (UInt8.lt_irrefl x)]; exact cb_refl a
theorem u8_cases (a b : UInt8) : a < b ∧ ¬ b < a ∨ a = b ∨ b < a ∧ ¬ a < b := by
  rcases Nat.lt_trichotomy a.toNat b.toNat with h | h | h
  · exact .inl ⟨UInt8.lt_iff_toNat_lt.2 h, fun h2 => by have := UInt8.lt_iff_toNat_lt.1 h2; omega⟩
  · exact .inr (.inl (UInt8.toNat_inj.1 h))
  · exact .inr (.inr ⟨UInt8.lt_iff_toNat_lt.2 h, fun h2 => by have := UInt8.lt_iff_toNat_lt.1 h2; omega⟩)
theorem cb_anti : ∀ a b : List UInt8, 0 < Lib.compareBytes a b ↔ Lib.compareBytes b a < 0
  | [], [] => by decide
  | [], _ :: _ => by unfold Lib.compareBytes; decide
  | _ :: _, [] => by unfold Lib.compareBytes; decide
  | x :: a, y :: b => by
    have ih := cb_anti a b
    unfold Lib.compareBytes
    rcases u8_cases x y with ⟨h1, h2⟩ | rfl | ⟨h1, h2⟩
    · rw [if_pos h1, if_neg h2, if_pos h1]; decide
    · rw [if_neg (UInt8.lt_irrefl x), if_neg (UInt8.lt_irrefl x), if_neg (UInt8.lt_irrefl x), if_neg (UInt8.lt_irrefl x)]; exact ih
    · rw [if_neg h2, if_pos h1, if_pos h1]; decide
theorem cb_trans : ∀ a b c : List UInt8, Lib.compareBytes a b ≤ 0 → Lib.compareBytes b c ≤ 0 → Lib.compareBytes a c ≤ 0
  | [], _, [] => fun _ _ => by decide
  | [], _, _ :: _ => fun _ _ => by unfold Lib.compareBytes; decide
  | _ :: _, [], c => fun h _ => absurd h (by unfold Lib.compareBytes; decide)
  | x :: a, y :: b, [] => fun _ h => absurd h (by unfold Lib.compareBytes; decide)
  | x :: a, y :: b, z :: c => fun h1 h2 => by
    have ih := cb_trans a b c
    unfold Lib.compareBytes at h1 h2 ⊢
    rcases u8_cases x y with ⟨p1, p2⟩ | rfl | ⟨p1, p2⟩
    · rcases u8_cases y z with ⟨q1, q2⟩ | rfl | ⟨q1, q2⟩
      · rw [if_pos (UInt8.lt_trans p1 q1)]; decide
      · rw [if_pos p1]; decide
      · rw [if_neg q2, if_pos q1] at h2; exact absurd h2 (by decide)
    · rcases u8_cases x z with ⟨q1, q2⟩ | rfl | ⟨q1, q2⟩
      · rw [if_pos q1]; decide
      · rw [if_neg (UInt8.lt_irrefl x), if_neg (UInt8.lt_irrefl x)] at h1 h2 ⊢; exact ih h1 h2
      · rw [if_neg q2, if_pos q1] at h2; exact absurd h2 (by decide)
    · rw [if_neg p2, if_pos p1] at h1; exact absurd h1 (by decide)
theorem wo_bytes {α : Type} (f : α → List UInt8) : WO fun x y => Lib.compareBytes (f x) (f y) :=
  ⟨fun x => by rw [cb_refl]; decide, fun x y => cb_anti _ _, fun x y z => cb_trans _ _ _⟩
theorem wo_lex {α : Type} {a b : α → α → Int} (ha : WO a) (hb : WO b) : WO fun x y => orF (a x y) (b x y) := by
  have zero : ∀ x y, a x y = 0 → a y x = 0 := fun x y h => by
    have h1 := ha.anti x y
    have h2 := ha.anti y x
    omega
  refine ⟨fun x => ?_, fun x y => ?_, fun x y z => ?_⟩
  · show orF _ _ ≤ 0
    have h1 := ha.anti x x
    have h2 := ha.refl x
    unfold orF
    split
    · exact hb.refl x
    · exact h2
  · show 0 < orF _ _ ↔ orF _ _ < 0
    unfold orF
    by_cases h : a x y = 0
    · rw [if_pos h, if_pos (zero x y h)]
      exact hb.anti x y
    · rw [if_neg h, if_neg (fun h2 => h (zero y x h2))]
      exact ha.anti x y
  · show orF _ _ ≤ 0 → orF _ _ ≤ 0 → orF _ _ ≤ 0
    unfold orF
    intro h1 h2
    by_cases p : a x y = 0
    · rw [if_pos p] at h1
      by_cases q : a y z = 0
      · rw [if_pos q] at h2
        have e1 := ha.trans x y z (by omega) (by omega)
        have e2 := ha.trans z y x (by have := zero y z q; omega) (by have := zero x y p; omega)
        have e3 := ha.anti z x
        have e4 := ha.anti x z
        rw [if_pos (by omega)]
        exact hb.trans x y z h1 h2
      · rw [if_neg q] at h2
        have e1 := ha.trans x y z (by omega) (by omega)
        have e2 : a x z ≠ 0 := fun e => q (by
          have e3 := ha.trans y x z (by have := zero x y p; omega) (by omega)
          have e4 := ha.trans z x y (by have := zero x z e; omega) (by omega)
          have e5 := ha.anti z y
          omega)
        rw [if_neg e2]
        exact e1
    · rw [if_neg p] at h1
      have hyz : a y z ≤ 0 := by
        by_cases q : a y z = 0
        · omega
        · rw [if_neg q] at h2; exact h2
      have e1 := ha.trans x y z h1 hyz
      have e2 : a x z ≠ 0 := fun e => p (by
        have e3 := ha.trans y z x hyz (by have := zero x z e; omega)
        have e4 := ha.anti x y
        have e5 := ha.anti y x
        omega)
      rw [if_neg e2]
      exact e1
/-- which ones least leaves -/
theorem mem_least {c : En → En → Int} (h : WO c) (xs : List En) : ∀ z, z ∈ leastL c xs ↔ z ∈ xs ∧ ∀ y ∈ xs, c z y ≤ 0 := by
  have key : ∀ (r pre out : List En), (pre ≠ [] → out ≠ []) → (∀ z, z ∈ out ↔ z ∈ pre ∧ ∀ y ∈ pre, c z y ≤ 0) → ∀ z, z ∈ r.foldl (stepL c) out ↔ z ∈ pre ++ r ∧ ∀ y ∈ pre ++ r, c z y ≤ 0 := by
    intro r
    induction r with
    | nil => intro pre out _ h2 z; rw [List.append_nil]; exact h2 z
    | cons x r ih =>
      intro pre out h1 h2 z
      have happ : pre ++ x :: r = (pre ++ [x]) ++ r := by simp
      rw [List.foldl_cons, happ]
      refine ih (pre ++ [x]) (stepL c out x) (fun _ => stepL_ne) (fun z => ?_) z
      cases out with
      | nil =>
        have hp : pre = [] := by
          cases pre with
          | nil => rfl
          | cons a b => exact absurd rfl (h1 (by simp))
        subst hp
        show z ∈ [x] ↔ _
        simp only [List.mem_singleton, List.nil_append]
        constructor
        · rintro rfl
          exact ⟨rfl, fun y hy => by subst hy; exact h.refl _⟩
        · exact fun h => h.1
      | cons y ys =>
        have hy := (h2 y).1 (by simp)
        show z ∈ (if 0 < c x y then y :: ys else if c x y < 0 then [x] else y :: ys ++ [x]) ↔ _
        have a1 := h.anti x y
        have a2 := h.anti y x
        split
        · next hp =>
          have hyx : c y x ≤ 0 := by omega
          rw [h2 z]
          constructor
          · rintro ⟨hz, hall⟩
            refine ⟨by simp [hz], fun u hu => ?_⟩
            rcases List.mem_append.1 hu with hu | hu
            · exact hall u hu
            · simp only [List.mem_singleton] at hu
              subst hu
              exact h.trans z y u (hall y hy.1) hyx
          · rintro ⟨hz, hall⟩
            rcases List.mem_append.1 hz with hz | hz
            · exact ⟨hz, fun u hu => hall u (by simp [hu])⟩
            · simp only [List.mem_singleton] at hz
              subst hz
              have := hall y (by simp [hy.1])
              omega
        · split
          · next hn hlt =>
            have hyx : 0 < c y x := by omega
            simp only [List.mem_singleton]
            constructor
            · rintro rfl
              refine ⟨by simp, fun u hu => ?_⟩
              rcases List.mem_append.1 hu with hu | hu
              · exact h.trans z y u (by omega) (hy.2 u hu)
              · simp only [List.mem_singleton] at hu
                subst hu
                exact h.refl _
            · rintro ⟨hz, hall⟩
              rcases List.mem_append.1 hz with hz | hz
              · have := h.trans y z x (hy.2 z hz) (hall x (by simp))
                omega
              · simpa using hz
          · next hn hlt =>
            have hyx : c y x ≤ 0 := by omega
            have hxy : c x y ≤ 0 := by omega
            rw [List.mem_append, h2 z]
            constructor
            · rintro (⟨hz, hall⟩ | hz)
              · refine ⟨by simp [hz], fun u hu => ?_⟩
                rcases List.mem_append.1 hu with hu | hu
                · exact hall u hu
                · simp only [List.mem_singleton] at hu
                  subst hu
                  exact h.trans z y u (hall y hy.1) hyx
              · simp only [List.mem_singleton] at hz
                subst hz
                refine ⟨by simp, fun u hu => ?_⟩
                rcases List.mem_append.1 hu with hu | hu
                · exact h.trans z y u hxy (hy.2 u hu)
                · simp only [List.mem_singleton] at hu
                  subst hu
                  exact h.refl _
            · rintro ⟨hz, hall⟩
              rcases List.mem_append.1 hz with hz | hz
              · exact .inl ⟨hz, fun u hu => hall u (by simp [hu])⟩
              · exact .inr hz
  intro z
  have := key xs [] [] (fun h => h) (fun z => by simp) z
  simpa [leastL] using this

/-- what the steps look at -/
abbrev Core := Pt × Int
def core (z : En) : Core := (z.p, z.cost)
def CS (xs : List En) (q : Core) : Prop := ∃ z ∈ xs, core z = q
def toEn (q : Core) : En := ⟨q.1, 0, q.2⟩
def ck (k : Nat) : En → En → Int := if k = 0 then c1 else if k = 1 then c2 else if k = 2 then c3 else if k = 3 then c4 else if k = 5 then c5 else if k = 6 then c6 else if k = 7 then c7 else if k = 8 then c8 else if k = 9 then c9 else if k = 10 then c10 else c11
/-- is one as good as the other, to a step? -/
def leS (k : Nat) (q r : Core) : Prop := if k = 4 then (neiF r.1 = neiF q.1 → medF q.1 ≤ medF r.1) else ck k (toEn q) (toEn r) ≤ 0
theorem wo_ck (k : Nat) : WO (ck k) := by
  unfold ck
  split
  · exact wo_down fun x : En => degF x.p
  split
  · exact wo_int fun x : En => locF x.p
  split
  · exact wo_int fun x : En => lenF x.p.segs
  split
  · exact wo_int fun x : En => x.p.origin
  split
  · exact wo_int fun x : En => rankF x.p
  split
  · exact wo_int fun x : En => x.cost
  split
  · exact wo_int fun x : En => identF x.p
  split
  · exact wo_int fun x : En => x.p.clus.length
  split
  · exact wo_lex (wo_int fun x : En => x.p.addr.size) (wo_bytes fun x : En => x.p.addr.data.toList)
  split
  · exact wo_bytes fun x : En => x.p.peer.data.toList
  · exact wo_int fun x : En => x.p.id
theorem step_at {k : Nat} (hk : k < 12) : stepS[k]? = some (if k = 4 then byMedL else leastL (ck k)) := by
  rcases (show k = 0 ∨ k = 1 ∨ k = 2 ∨ k = 3 ∨ k = 4 ∨ k = 5 ∨ k = 6 ∨ k = 7 ∨ k = 8 ∨ k = 9 ∨ k = 10 ∨ k = 11 by omega) with rfl | rfl | rfl | rfl | rfl | rfl | rfl | rfl | rfl | rfl | rfl | rfl <;> rfl
theorem ck_core (k : Nat) (x y : En) : ck k x y = ck k (toEn (core x)) (toEn (core y)) := by
  unfold ck
  repeat' split
  all_goals rfl
theorem CS_step {k : Nat} (hk : k < 12) (xs : List En) (q : Core) : CS (runK (k + 1) xs) q ↔ CS (runK k xs) q ∧ ∀ r, CS (runK k xs) r → leS k q r := by
  rw [runK_succ (step_at hk)]
  generalize runK k xs = ys
  unfold leS
  by_cases h4 : k = 4
  · rw [if_pos h4]
    simp only [if_pos h4]
    constructor
    · rintro ⟨z, hz, rfl⟩
      obtain ⟨h1, h2⟩ := List.mem_filter.1 hz
      refine ⟨⟨z, h1, rfl⟩, fun r hr => ?_⟩
      obtain ⟨y, hy, rfl⟩ := hr
      exact of_decide_eq_true (List.all_eq_true.1 h2 y hy)
    · rintro ⟨⟨z, hz, rfl⟩, hall⟩
      refine ⟨z, List.mem_filter.2 ⟨hz, ?_⟩, rfl⟩
      unfold lowAll
      rw [List.all_eq_true]
      exact fun y hy => decide_eq_true (hall (core y) ⟨y, hy, rfl⟩)
  · rw [if_neg h4]
    simp only [if_neg h4]
    constructor
    · rintro ⟨z, hz, rfl⟩
      obtain ⟨h1, h2⟩ := (mem_least (wo_ck k) ys z).1 hz
      refine ⟨⟨z, h1, rfl⟩, fun r hr => ?_⟩
      obtain ⟨y, hy, rfl⟩ := hr
      rw [← ck_core]
      exact h2 y hy
    · rintro ⟨⟨z, hz, rfl⟩, hall⟩
      refine ⟨z, (mem_least (wo_ck k) ys z).2 ⟨hz, fun y hy => ?_⟩, rfl⟩
      rw [ck_core]
      exact hall (core y) ⟨y, hy, rfl⟩
/-- those of a set that the first k steps leave -/
def R : Nat → (Core → Prop) → Core → Prop
  | 0, P, q => P q
  | k + 1, P, q => R k P q ∧ ∀ r, R k P r → leS k q r
theorem CS_run (xs : List En) : ∀ k, k ≤ 12 → ∀ q, CS (runK k xs) q ↔ R k (CS xs) q
  | 0, _, q => Iff.rfl
  | k + 1, h, q => by
    rw [CS_step (by omega)]
    unfold R
    have ih := CS_run xs k (by omega)
    constructor
    · rintro ⟨h1, h2⟩
      exact ⟨(ih q).1 h1, fun r hr => h2 r ((ih r).2 hr)⟩
    · rintro ⟨h1, h2⟩
      exact ⟨(ih q).2 h1, fun r hr => h2 r ((ih r).1 hr)⟩
theorem R_le {P : Core → Prop} {q : Core} : ∀ (k j : Nat), R (k + j) P q → R k P q
  | k, 0, h => h
  | k, j + 1, h => R_le k j h.1
theorem R_congr {P P' : Core → Prop} (h : ∀ q, P q ↔ P' q) : ∀ k q, R k P q ↔ R k P' q
  | 0, q => h q
  | k + 1, q => by
    unfold R
    have ih := R_congr h k
    constructor
    · rintro ⟨h1, h2⟩
      exact ⟨(ih q).1 h1, fun r hr => h2 r ((ih r).2 hr)⟩
    · rintro ⟨h1, h2⟩
      exact ⟨(ih q).2 h1, fun r hr => h2 r ((ih r).1 hr)⟩
theorem best_R {xs : List En} {y : En} (h : bestF xs = some y) : R 12 (CS xs) (core y) := by
  rw [← CS_run xs 12 (Nat.le_refl _)]
  exact ⟨y, List.mem_of_mem_head? (by unfold bestF at h; rw [h]; rfl), rfl⟩
theorem R_id {P : Core → Prop} {q r : Core} (hq : R 12 P q) (hr : R 12 P r) : q.1.id = r.1.id := by
  have h1 : Lib.compareInt q.1.id r.1.id ≤ 0 := hq.2 r hr.1
  have h2 : Lib.compareInt r.1.id q.1.id ≤ 0 := hr.2 q hq.1
  have h3 := (ci_le _ _).1 h1
  have h4 := (ci_le _ _).1 h2
  omega

/-- an order's entries -/
def orderE : Nat → List En → List En
  | 0, _ => []
  | n + 1, xs => match bestF xs with
    | none => []
    | some b => b :: orderE n (xs.filter fun z => z.at_ != b.at_)
theorem orderN_E : ∀ (n : Nat) (xs : List En), orderN n xs = (orderE n xs).map (·.at_)
  | 0, xs => rfl
  | n + 1, xs => by
    unfold orderN orderE
    cases bestF xs with
    | none => rfl
    | some b =>
      show b.at_ :: orderN n _ = b.at_ :: (orderE n _).map _
      rw [orderN_E n]
theorem bestF_none {xs : List En} (h : bestF xs = none) : xs = [] := by
  cases xs with
  | nil => rfl
  | cons x r => obtain ⟨y, hy⟩ := bestF_some (xs := x :: r) (by simp); rw [hy] at h; cases h
theorem orderE_mem : ∀ (n : Nat) (xs : List En), xs.length ≤ n → xs.Pairwise (fun a b => a.at_ ≠ b.at_) → ∀ z, z ∈ orderE n xs ↔ z ∈ xs
  | 0, xs, h, _, z => by
    obtain rfl : xs = [] := List.eq_nil_of_length_eq_zero (Nat.le_zero.1 h)
    exact Iff.rfl
  | n + 1, xs, h, hp, z => by
    unfold orderE
    cases hb : bestF xs with
    | none => rw [bestF_none hb]
    | some b =>
      have hm := bestF_mem hb
      have ih := orderE_mem n (xs.filter fun z => z.at_ != b.at_) (by have := drop_best hb; omega) (hp.filter _) z
      show z ∈ b :: orderE n _ ↔ _
      rw [List.mem_cons, ih, List.mem_filter]
      constructor
      · rintro (rfl | h)
        · exact hm
        · exact h.1
      · intro hz
        by_cases e : z.at_ = b.at_
        · refine .inl ?_
          obtain ⟨i, hi, e1⟩ := List.mem_iff_getElem.1 hz
          obtain ⟨j, hj, e2⟩ := List.mem_iff_getElem.1 hm
          have hq := List.pairwise_iff_getElem.1 hp
          rcases Nat.lt_trichotomy i j with hlt | heq | hgt
          · exact absurd (by rw [e1, e2, e]) (hq i j hi hj hlt)
          · subst heq; rw [← e1, ← e2]
          · exact absurd (by rw [e1, e2, e]) (hq j i hj hi hgt)
        · exact .inr ⟨hz, by rw [bne_iff_ne]; exact e⟩
theorem orderE_nd : ∀ (n : Nat) (xs : List En), xs.length ≤ n → xs.Pairwise (fun a b => a.at_ ≠ b.at_) → (orderE n xs).Pairwise (fun a b => a.at_ ≠ b.at_)
  | 0, xs, h, _ => List.Pairwise.nil
  | n + 1, xs, h, hp => by
    unfold orderE
    cases hb : bestF xs with
    | none => exact List.Pairwise.nil
    | some b =>
      have hl : (xs.filter fun z => z.at_ != b.at_).length ≤ n := by have := drop_best hb; omega
      refine List.pairwise_cons.2 ⟨fun z hz => ?_, orderE_nd n _ hl (hp.filter _)⟩
      have := (orderE_mem n _ hl (hp.filter _) z).1 hz
      have h2 := (List.mem_filter.1 this).2
      rw [bne_iff_ne] at h2
      exact fun e => h2 e.symm
/-- ids tell entries apart, as places do -/
structure Good (xs : List En) : Prop where
  at_ : xs.Pairwise (fun a b => a.at_ ≠ b.at_)
  id : ∀ a ∈ xs, ∀ b ∈ xs, a.p.id = b.p.id → a = b
theorem Good.at_inj {xs : List En} (h : Good xs) {a b : En} (ha : a ∈ xs) (hb : b ∈ xs) (e : a.at_ = b.at_) : a = b := by
  obtain ⟨i, hi, e1⟩ := List.mem_iff_getElem.1 ha
  obtain ⟨j, hj, e2⟩ := List.mem_iff_getElem.1 hb
  have hq := List.pairwise_iff_getElem.1 h.at_
  rcases Nat.lt_trichotomy i j with hlt | heq | hgt
  · exact absurd (by rw [e1, e2, e]) (hq i j hi hj hlt)
  · subst heq; rw [← e1, ← e2]
  · exact absurd (by rw [e1, e2, e]) (hq j i hj hi hgt)
theorem Good.filter {xs : List En} (h : Good xs) (p : En → Bool) : Good (xs.filter p) := ⟨h.at_.filter p, fun a ha b hb => h.id a (List.mem_filter.1 ha).1 b (List.mem_filter.1 hb).1⟩
theorem CS_drop {xs : List En} (h : Good xs) {b : En} (hb : b ∈ xs) (q : Core) : CS (xs.filter fun z => z.at_ != b.at_) q ↔ CS xs q ∧ q.1.id ≠ b.p.id := by
  constructor
  · rintro ⟨z, hz, rfl⟩
    obtain ⟨h1, h2⟩ := List.mem_filter.1 hz
    rw [bne_iff_ne] at h2
    exact ⟨⟨z, h1, rfl⟩, fun e => h2 (by rw [h.id z h1 b hb e])⟩
  · rintro ⟨⟨z, hz, rfl⟩, hne⟩
    exact ⟨z, List.mem_filter.2 ⟨hz, by rw [bne_iff_ne]; exact fun e => hne (by rw [h.at_inj hz hb e]; rfl)⟩, rfl⟩
/-- THE PLAIN LAW: the same set, the same order -/
theorem order_same : ∀ (n m : Nat) (xs ys : List En), xs.length ≤ n → ys.length ≤ m → Good xs → Good ys → (∀ q, CS xs q ↔ CS ys q) → (orderE n xs).map core = (orderE m ys).map core := by
  intro n
  induction n with
  | zero =>
    intro m xs ys h1 h2 g1 g2 hs
    obtain rfl : xs = [] := List.eq_nil_of_length_eq_zero (Nat.le_zero.1 h1)
    have hy : ys = [] := by
      cases ys with
      | nil => rfl
      | cons y r =>
        obtain ⟨z, hz, _⟩ := (hs (core y)).2 ⟨y, by simp, rfl⟩
        cases hz
    subst hy
    cases m with
    | zero => rfl
    | succ m => unfold orderE; rw [bestF_nil]
  | succ n ih =>
    intro m xs ys h1 h2 g1 g2 hs
    cases hb : bestF xs with
    | none =>
      obtain rfl := bestF_none hb
      have hy : ys = [] := by
        cases ys with
        | nil => rfl
        | cons y r =>
          obtain ⟨z, hz, _⟩ := (hs (core y)).2 ⟨y, by simp, rfl⟩
          cases hz
      subst hy
      unfold orderE
      rw [bestF_nil]
      cases m with
      | zero => rfl
      | succ m => simp only [orderE, bestF_nil]
    | some b =>
      have hbm := bestF_mem hb
      obtain ⟨z, hz, hzc⟩ := (hs (core b)).1 ⟨b, hbm, rfl⟩
      cases hc : bestF ys with
      | none => rw [bestF_none hc] at hz; cases hz
      | some c =>
        have hcm := bestF_mem hc
        have r1 := best_R hb
        have r2 := (R_congr hs 12 (core c)).2 (best_R hc)
        have hid : b.p.id = c.p.id := R_id r1 r2
        have hcore : core b = core c := by
          have e : z = c := g2.id z hz c hcm (by
            have : z.p = b.p := congrArg Prod.fst hzc
            rw [this]; exact hid)
          rw [← hzc, e]
        cases m with
        | zero => rw [List.eq_nil_of_length_eq_zero (Nat.le_zero.1 h2)] at hcm; cases hcm
        | succ m =>
          unfold orderE
          rw [hb, hc]
          show core b :: (orderE n _).map core = core c :: (orderE m _).map core
          rw [hcore]
          congr 1
          refine ih m _ _ (by have := drop_best hb; omega) (by have := drop_best hc; omega) (g1.filter _) (g2.filter _) (fun q => ?_)
          rw [CS_drop g1 hbm, CS_drop g2 hcm, hs, hid]
theorem orderF_E (xs : List En) : orderF xs = (orderE xs.length xs).map (·.at_) := orderN_E _ _
end Go.Proofs.Ytoamigfjpcniaaa
