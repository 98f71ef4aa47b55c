/-
  Several texts in one.
-/
import Derived.Test.YtldpcliahfiloaaSW33
import Derived.Test.YtldpcliahfiloaaSW34
set_option linter.unusedVariables false
set_option linter.unusedSimpArgs false
namespace Go.Proofs.Ytldpcliahfiloaa
open Go.RowKit Go.MapKept Go.Shelf
open Go.Lib hiding intOf
open Go.Sort hiding Below

def roF (x y : Int) : Int := if x = 0 then y else x
/-- a weak order -/
structure WO {α : Type} (c : α → α → Int) : Prop where
  refl : ∀ x, c x x ≤ 0
  anti : ∀ x y, 0 < c x y ↔ c y x < 0
  trans : ∀ x y z, c x y ≤ 0 → c y z ≤ 0 → c x z ≤ 0
theorem ci_pos (x y : Int) : 0 < Lib.compareInt x y ↔ y < x := by unfold Lib.compareInt; repeat' split <;> omega
theorem ci_neg (x y : Int) : Lib.compareInt x y < 0 ↔ x < y := by unfold Lib.compareInt; repeat' split <;> omega
theorem ci_le (x y : Int) : Lib.compareInt x y ≤ 0 ↔ x ≤ y := by unfold Lib.compareInt; repeat' split <;> omega
theorem wo_int {α : Type} (f : α → Int) : WO fun x y => Lib.compareInt (f x) (f y) :=
  ⟨fun x => (ci_le _ _).2 (Int.le_refl _), fun x y => by rw [ci_pos, ci_neg], fun x y z h1 h2 => (ci_le _ _).2 (Int.le_trans ((ci_le _ _).1 h1) ((ci_le _ _).1 h2))⟩
theorem cb_refl : ∀ a : List UInt8, Lib.compareBytes a a = 0
  | [] => rfl
  | x :: a => by unfold Lib.compareBytes; rw [if_neg (UInt8.lt_irrefl x), if_neg (UInt8.lt_irrefl x)]; exact cb_refl a
theorem u8_cases (a b : UInt8) : a < b ∧ ¬ b < a ∨ a = b ∨ b < a ∧ ¬ a < b := by
  rcases Nat.lt_trichotomy a.toNat b.toNat with h | h | h
  · exact .inl ⟨UInt8.lt_iff_toNat_lt.2 h, fun h2 => by have := UInt8.lt_iff_toNat_lt.1 h2; omega⟩
  · exact .inr (.inl (UInt8.toNat_inj.1 h))
  · exact .inr (.inr ⟨UInt8.lt_iff_toNat_lt.2 h, fun h2 => by have := UInt8.lt_iff_toNat_lt.1 h2; omega⟩)
theorem cb_anti : ∀ a b : List UInt8, 0 < Lib.compareBytes a b ↔ Lib.compareBytes b a < 0
  | [], [] => by decide
  | [], _ :: _ => by unfold Lib.compareBytes; decide
  | _ :: _, [] => by unfold Lib.compareBytes; decide
  | x :: a, y :: b => by
    have ih := cb_anti a b
    unfold Lib.compareBytes
    rcases u8_cases x y with ⟨h1, h2⟩ | rfl | ⟨h1, h2⟩
    · rw [if_pos h1, if_neg h2, if_pos h1]; decide
    · rw [if_neg (UInt8.lt_irrefl x), if_neg (UInt8.lt_irrefl x), if_neg (UInt8.lt_irrefl x), if_neg (UInt8.lt_irrefl x)]; exact ih
    · rw [if_neg h2, if_pos h1, if_pos h1]; decide
theorem cb_trans : ∀ a b c : List UInt8, Lib.compareBytes a b ≤ 0 → Lib.compareBytes b c ≤ 0 → Lib.compareBytes a c ≤ 0
  | [], _, [] => fun _ _ => by decide
  | [], _, _ :: _ => fun _ _ => by unfold Lib.compareBytes; decide
  | _ :: _, [], c => fun h _ => absurd h (by unfold Lib.compareBytes; decide)
  | x :: a, y :: b, [] => fun _ h => absurd h (by unfold Lib.compareBytes; decide)
  | x :: a, y :: b, z :: c => fun h1 h2 => by
    have ih := cb_trans a b c
    unfold Lib.compareBytes at h1 h2 ⊢
    rcases u8_cases x y with ⟨p1, p2⟩ | rfl | ⟨p1, p2⟩
    · rcases u8_cases y z with ⟨q1, q2⟩ | rfl | ⟨q1, q2⟩
      · rw [if_pos (UInt8.lt_trans p1 q1)]; decide
      · rw [if_pos p1]; decide
      · rw [if_neg q2, if_pos q1] at h2; exact absurd h2 (by decide)
    · rcases u8_cases x z with ⟨q1, q2⟩ | rfl | ⟨q1, q2⟩
      · rw [if_pos q1]; decide
      · rw [if_neg (UInt8.lt_irrefl x), if_neg (UInt8.lt_irrefl x)] at h1 h2 ⊢; exact ih h1 h2
      · rw [if_neg q2, if_pos q1] at h2; exact absurd h2 (by decide)
    · rw [if_neg p2, if_pos p1] at h1; exact absurd h1 (by decide)
theorem wo_bytes {α : Type} (f : α → List UInt8) : WO fun x y => Lib.compareBytes (f x) (f y) :=
  ⟨fun x => by rw [cb_refl]; decide, fun x y => cb_anti _ _, fun x y z => cb_trans _ _ _⟩
theorem wo_lex {α : Type} {a b : α → α → Int} (ha : WO a) (hb : WO b) : WO fun x y => roF (a x y) (b x y) := by
  have zero : ∀ x y, a x y = 0 → a y x = 0 := fun x y h => by
    have h1 := ha.anti x y
    have h2 := ha.anti y x
    omega
  refine ⟨fun x => ?_, fun x y => ?_, fun x y z => ?_⟩
  · show roF _ _ ≤ 0
    have h1 := ha.anti x x
    have h2 := ha.refl x
    unfold roF
    split
    · exact hb.refl x
    · exact h2
  · show 0 < roF _ _ ↔ roF _ _ < 0
    unfold roF
    by_cases h : a x y = 0
    · rw [if_pos h, if_pos (zero x y h)]
      exact hb.anti x y
    · rw [if_neg h, if_neg (fun h2 => h (zero y x h2))]
      exact ha.anti x y
  · show roF _ _ ≤ 0 → roF _ _ ≤ 0 → roF _ _ ≤ 0
    unfold roF
    intro h1 h2
    by_cases p : a x y = 0
    · rw [if_pos p] at h1
      by_cases q : a y z = 0
      · rw [if_pos q] at h2
        have e1 := ha.trans x y z (by omega) (by omega)
        have e2 := ha.trans z y x (by have := zero y z q; omega) (by have := zero x y p; omega)
        have e3 := ha.anti z x
        have e4 := ha.anti x z
        rw [if_pos (by omega)]
        exact hb.trans x y z h1 h2
      · rw [if_neg q] at h2
        have e1 := ha.trans x y z (by omega) (by omega)
        have e2 : a x z ≠ 0 := fun e => q (by
          have e3 := ha.trans y x z (by have := zero x y p; omega) (by omega)
          have e4 := ha.trans z x y (by have := zero x z e; omega) (by omega)
          have e5 := ha.anti z y
          omega)
        rw [if_neg e2]
        exact e1
    · rw [if_neg p] at h1
      have hyz : a y z ≤ 0 := by
        by_cases q : a y z = 0
        · omega
        · rw [if_neg q] at h2; exact h2
      have e1 := ha.trans x y z h1 hyz
      have e2 : a x z ≠ 0 := fun e => p (by
        have e3 := ha.trans y z x hyz (by have := zero x z e; omega)
        have e4 := ha.anti x y
        have e5 := ha.anti y x
        omega)
      rw [if_neg e2]
      exact e1
theorem ci_zero (x y : Int) : Lib.compareInt x y = 0 ↔ x = y := by unfold Lib.compareInt; repeat' split <;> omega
theorem cb_zero : ∀ a b : List UInt8, Lib.compareBytes a b = 0 → a = b
  | [], [], _ => rfl
  | [], _ :: _, h => absurd h (by unfold Lib.compareBytes; decide)
  | _ :: _, [], h => absurd h (by unfold Lib.compareBytes; decide)
  | x :: a, y :: b, h => by
    unfold Lib.compareBytes at h
    rcases u8_cases x y with ⟨h1, h2⟩ | rfl | ⟨h1, h2⟩
    · rw [if_pos h1] at h; exact absurd h (by decide)
    · rw [if_neg (UInt8.lt_irrefl x), if_neg (UInt8.lt_irrefl x)] at h
      rw [cb_zero a b h]
    · rw [if_neg h2, if_pos h1] at h; exact absurd h (by decide)
/-- prim.Cmp -/
def pcF (x y : Pk) : Int := roF (Lib.compareInt x.fam y.fam) (roF (Lib.compareInt x.rd y.rd) (roF (Lib.compareBytes x.addr.data.toList y.addr.data.toList) (Lib.compareInt x.len y.len)))
/-- adjin.order -/
def cfP (x y : Pk) : Int := roF (pcF x y) (Lib.compareInt (x.id : Nat) (y.id : Nat))
theorem roF_zero {x y : Int} (h : roF x y = 0) : x = 0 ∧ y = 0 := by
  unfold roF at h
  split at h
  · rename_i h1; exact ⟨h1, h⟩
  · rename_i h1; exact absurd h h1
theorem wo_pc : WO pcF := wo_lex (wo_int fun x : Pk => x.fam) (wo_lex (wo_int fun x : Pk => x.rd) (wo_lex (wo_bytes fun x : Pk => x.addr.data.toList) (wo_int fun x : Pk => x.len)))
theorem wo_cf : WO cfP := wo_lex wo_pc (wo_int fun x : Pk => (x.id : Int))
theorem cfP_zero {x y : Pk} (h : cfP x y = 0) : x = y := by
  obtain ⟨h1, h2⟩ := roF_zero h
  obtain ⟨h3, h4⟩ := roF_zero h1
  obtain ⟨h5, h6⟩ := roF_zero h4
  obtain ⟨h7, h8⟩ := roF_zero h6
  have e1 := (ci_zero _ _).1 h2
  have e2 := (ci_zero _ _).1 h3
  have e3 := (ci_zero _ _).1 h5
  have e4 := cb_zero _ _ h7
  have e5 := (ci_zero _ _).1 h8
  obtain ⟨f, r, ⟨⟨a⟩⟩, l, i⟩ := x
  obtain ⟨f2, r2, ⟨⟨a2⟩⟩, l2, i2⟩ := y
  simp only at e1 e2 e3 e4 e5
  have e1' : i = i2 := by omega
  subst e1' e2 e3 e5
  have e6 : a = a2 := e4
  rw [e6]
theorem swo_of {α : Type} {c : α → α → Int} (h : WO c) : SWO (ltOf c) where
  irrefl x := by
    unfold ltOf
    have h1 := h.anti x x
    have h2 := h.refl x
    rw [decide_eq_false_iff_not]
    omega
  trans x y z h1 h2 := by
    unfold ltOf at *
    rw [decide_eq_true_iff] at *
    have a1 := h.anti x z
    have a2 := h.anti z x
    have t1 := h.trans x y z (by omega) (by omega)
    refine Decidable.byContradiction fun h0 => ?_
    have h3 : c x z = 0 := by omega
    have h4 : c z x ≤ 0 := by omega
    have t2 := h.trans z x y h4 (by omega)
    have a3 := h.anti z y
    have a4 := h.anti y z
    omega
  ntrans x y z h1 h2 := by
    unfold ltOf at *
    rw [decide_eq_false_iff_not] at *
    have a1 := h.anti x y
    have a2 := h.anti y z
    have a3 := h.anti y x
    have a4 := h.anti z y
    have a5 := h.anti z x
    have a6 := h.anti x z
    have t1 := h.trans z y x (by omega) (by omega)
    omega
theorem swoP : SWO (ltOf cfP) := swo_of wo_cf
/-- places in order -/
def OrdP (l : List Pk) : Prop := l.Pairwise fun x y => cfP x y < 0
theorem cf_total (x y : Pk) : cfP x y < 0 ∨ x = y ∨ cfP y x < 0 := by
  have a1 := wo_cf.anti x y
  rcases Int.lt_trichotomy (cfP x y) 0 with h | h | h
  · exact .inl h
  · exact .inr (.inl (cfP_zero h))
  · exact .inr (.inr (a1.1 h))
theorem cf_irrefl (x : Pk) : ¬ cfP x x < 0 := by
  have a1 := wo_cf.anti x x
  have a2 := wo_cf.refl x
  omega
end Go.Proofs.Ytldpcliahfiloaa
