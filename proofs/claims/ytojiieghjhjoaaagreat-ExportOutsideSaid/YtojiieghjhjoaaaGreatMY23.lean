/-
  Several texts in one.
-/
import Derived.Test.YtojiieghjhjoaaaGreatMY22
import Derived.Test.YtojiieghjhjoaaaGreatMY13
set_option linter.unusedVariables false
set_option linter.unusedSimpArgs false
namespace Go.Proofs.YtojiieghjhjoaaaGreat
open Go.RowKit Go.MapKept Go.Shelf
open Go.Lib hiding intOf

theorem AtC.eq_iff {a b : AtC} : (a.origin = b.origin ∧ a.next = b.next ∧ a.hasMed = b.hasMed ∧ a.med = b.med ∧ a.hasPref = b.hasPref ∧ a.pref = b.pref ∧ a.atomic = b.atomic ∧ a.aggAs = b.aggAs ∧ a.aggId = b.aggId ∧ a.hasOrig = b.hasOrig ∧ a.orig = b.orig ∧ a.path = b.path ∧ a.comms = b.comms ∧ a.exts = b.exts ∧ a.larges = b.larges ∧ a.clus = b.clus) ↔ a = b := by
  constructor
  · rintro ⟨h0, h1, h2, h3, h4, h5, h6, h7, h8, h9, h10, h11, h12, h13, h14, h15⟩
    cases a
    cases b
    simp only at h0 h1 h2 h3 h4 h5 h6 h7 h8 h9 h10 h11 h12 h13 h14 h15
    subst h0 h1 h2 h3 h4 h5 h6 h7 h8 h9 h10 h11 h12 h13 h14 h15
    rfl
  · rintro rfl
    exact ⟨rfl, rfl, rfl, rfl, rfl, rfl, rfl, rfl, rfl, rfl, rfl, rfl, rfl, rfl, rfl, rfl⟩
instance : DecidableEq AtC := fun a b => decidable_of_iff _ (AtC.eq_iff (a := a) (b := b))
/-- what is left of a region where nothing is left to be done but to hand on and to pass over -/
def pureAll (ops : Array Oper) : List Oper → Act → Option Act
  | [], a => some a
  | o :: r, a => if Region.wanted o (yielded ops a.tmps) = true then
      match o.op with
      | .move x => pureAll ops r (a.put o.dst (a.eval x))
      | .assign x => pureAll ops r (a.put o.dst (a.eval x))
      | .pick c x y => match a.eval c with
        | .bool b => pureAll ops r (a.put o.dst (if b then a.eval x else a.eval y))
        | _ => none
      | _ => none
    else pureAll ops r (a.put o.dst undef)
theorem wpList_pure {P : Program} {ops : Array Oper} {Q : Exit → Act → World → Prop} {w : World} : ∀ {rest : List Oper} {a a' : Act}, pureAll ops rest a = some a' → Q .normal a' w → wpList P ops Q rest a w
  | [], a, a', h, hQ => by
    cases h
    exact hQ
  | o :: r, a, a', h, hQ => by
    unfold pureAll at h
    by_cases hw : Region.wanted o (yielded ops a.tmps) = true
    · rw [if_pos hw] at h
      refine Go.BigFrame.wpList_want hw fun K hK => ?_
      obtain ⟨dst, op, type, pos, after, guard⟩ := o
      cases op <;> try (cases h; done)
      case move x =>
        unfold Oper.wp execOp
        exact hK _ _ (wpList_pure h hQ)
      case assign x =>
        unfold Oper.wp execOp
        exact hK _ _ (wpList_pure h hQ)
      case pick c x y =>
        simp only at h
        split at h
        · next b hb =>
          unfold Oper.wp execOp
          simp only [hb]
          cases b <;> exact hK _ _ (wpList_pure h hQ)
        · cases h
    · rw [if_neg hw] at h
      exact wpList_skip (by simpa using hw) (wpList_pure h hQ)
def StopP (p : Prop) : Prop := p
theorem StopB {p : Prop} (h : StopP p) : p := h
theorem StopA {p : Prop} (h : p) : StopP p := h
theorem wp_region_eq {P : Program} {id : Nat} {ops : Array Oper} {Q : Exit → Act → World → Prop} {a : Act} {w : World} (l : List Oper) (h : ops = l.toArray) (H : wpList P l.toArray Q l a w) : (Code.region id ops false).wp P Q a w := by
  subst h
  exact wp_region_lit H
theorem bytes_eq {s t : ByteArray} : (s.toList == t.toList) = true ↔ s = t := by
  rw [beq_iff_eq]
  constructor
  · intro h
    rw [ByteArray.toList_eq, ByteArray.toList_eq] at h
    apply ByteArray.ext
    exact Array.ext' h
  · rintro rfl
    rfl
end Go.Proofs.YtojiieghjhjoaaaGreat
