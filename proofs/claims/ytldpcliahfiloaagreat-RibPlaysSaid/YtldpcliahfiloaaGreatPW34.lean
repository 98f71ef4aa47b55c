/-
  Several texts in one.
-/
import Derived.Test.YtldpcliahfiloaaGreatPW33
import Derived.Test.YtldpcliahfiloaaGreatPW14
import Derived.Test.YtldpcliahfiloaaGreatPW32
import Derived.Test.YtldpcliahfiloaaGreatPW15
set_option linter.unusedVariables false
set_option linter.unusedSimpArgs false
namespace Go.Proofs.YtldpcliahfiloaaGreat
open Go.RowKit Go.MapKept Go.Shelf
open Go.Lib hiding intOf

theorem AtC.eq_iff {a b : AtC} : (a.origin = b.origin ∧ a.next = b.next ∧ a.hasMed = b.hasMed ∧ a.med = b.med ∧ a.hasPref = b.hasPref ∧ a.pref = b.pref ∧ a.atomic = b.atomic ∧ a.aggAs = b.aggAs ∧ a.aggId = b.aggId ∧ a.hasOrig = b.hasOrig ∧ a.orig = b.orig ∧ a.path = b.path ∧ a.comms = b.comms ∧ a.exts = b.exts ∧ a.larges = b.larges ∧ a.clus = b.clus) ↔ a = b := by
  constructor
  · rintro ⟨h0, h1, h2, h3, h4, h5, h6, h7, h8, h9, h10, h11, h12, h13, h14, h15⟩
    cases a
    cases b
    simp only at h0 h1 h2 h3 h4 h5 h6 h7 h8 h9 h10 h11 h12 h13 h14 h15
    subst h0 h1 h2 h3 h4 h5 h6 h7 h8 h9 h10 h11 h12 h13 h14 h15
    rfl
  · rintro rfl
    exact ⟨rfl, rfl, rfl, rfl, rfl, rfl, rfl, rfl, rfl, rfl, rfl, rfl, rfl, rfl, rfl, rfl⟩
instance : DecidableEq AtC := fun a b => decidable_of_iff _ (AtC.eq_iff (a := a) (b := b))
/-- what is left of a region where nothing is left to be done but to hand on and to pass over -/
def pureAll (ops : Array Oper) : List Oper → Act → Option Act
  | [], a => some a
  | o :: r, a => if Region.wanted o (yielded ops a.tmps) = true then
      match o.op with
      | .move x => pureAll ops r (a.put o.dst (a.eval x))
      | .assign x => pureAll ops r (a.put o.dst (a.eval x))
      | .pick c x y => match a.eval c with
        | .bool b => pureAll ops r (a.put o.dst (if b then a.eval x else a.eval y))
        | _ => none
      | _ => none
    else pureAll ops r (a.put o.dst undef)
theorem wpList_pure {P : Program} {ops : Array Oper} {Q : Exit → Act → World → Prop} {w : World} : ∀ {rest : List Oper} {a a' : Act}, pureAll ops rest a = some a' → Q .normal a' w → wpList P ops Q rest a w
  | [], a, a', h, hQ => by
    cases h
    exact hQ
  | o :: r, a, a', h, hQ => by
    unfold pureAll at h
    by_cases hw : Region.wanted o (yielded ops a.tmps) = true
    · rw [if_pos hw] at h
      refine Go.BigFrame.wpList_want hw fun K hK => ?_
      obtain ⟨dst, op, type, pos, after, guard⟩ := o
      cases op <;> try (cases h; done)
      case move x =>
        unfold Oper.wp execOp
        exact hK _ _ (wpList_pure h hQ)
      case assign x =>
        unfold Oper.wp execOp
        exact hK _ _ (wpList_pure h hQ)
      case pick c x y =>
        simp only at h
        split at h
        · next b hb =>
          unfold Oper.wp execOp
          simp only [hb]
          cases b <;> exact hK _ _ (wpList_pure h hQ)
        · cases h
    · rw [if_neg hw] at h
      exact wpList_skip (by simpa using hw) (wpList_pure h hQ)
def StopP (p : Prop) : Prop := p
theorem StopB {p : Prop} (h : StopP p) : p := h
theorem StopA {p : Prop} (h : p) : StopP p := h
theorem wp_region_eq {P : Program} {id : Nat} {ops : Array Oper} {Q : Exit → Act → World → Prop} {a : Act} {w : World} (l : List Oper) (h : ops = l.toArray) (H : wpList P l.toArray Q l a w) : (Code.region id ops false).wp P Q a w := by
  subst h
  exact wp_region_lit H
theorem bytes_eq {s t : ByteArray} : (s.toList == t.toList) = true ↔ s = t := by
  rw [beq_iff_eq]
  constructor
  · intro h
    rw [ByteArray.toList_eq, ByteArray.toList_eq] at h
    apply ByteArray.ext
    exact Array.ext' h
  · rintro rfl
    rfl
end Go.Proofs.YtldpcliahfiloaaGreat
set_option linter.unusedVariables false
set_option linter.unusedSimpArgs false
namespace Go.Proofs.YtldpcliahfiloaaGreat
open Go.RowKit Go.MapKept Go.Shelf
open Go.ChangeShapes Go.WideShapes Go.ChangeAt
open Go.Lib hiding intOf
open Go.Sort hiding Below

/-- a told prefix that came in -/
structure Nr where
  k : Pk
  label : Nat
def Nr.cs (x : Nr) : List Value := [.int .i64 x.k.fam, .int .u64 x.k.rd, .string x.k.addr, .int .i64 x.k.len, .int .u32 (x.k.id : Nat), .int .u32 (x.label : Nat)]
structure Nr.Ok (x : Nr) : Prop where
  k : x.k.Ok
  label : x.label < 4294967296
structure NrsOk (w : World) (A : Option Addr) (cap : Nat) (L : List Nr) : Prop where
  rd : Rd w A 6 (L.map Nr.cs)
  len : L.length ≤ cap
  cap : cap ≤ 9223372036854775807
  ok : ∀ x ∈ L, x.Ok
theorem NrsOk.take {w : World} {A : Option Addr} {c N : Nat} {L : List Nr} (h : NrsOk w A c L) (hN : N ≤ L.length) : NrsOk w A c (L.take N) := by
  refine ⟨fun hl => ?_, by rw [List.length_take]; have := h.len; omega, h.cap, fun r hr => h.ok r (List.mem_of_mem_take hr)⟩
  rw [List.length_map, List.length_take] at hl
  obtain ⟨b, off, hA, hb, hc⟩ := h.rd (by rw [List.length_map]; omega)
  refine ⟨b, off, hA, hb, fun i cs hi j u hu => hc i cs ?_ j u hu⟩
  rw [List.getElem?_map] at hi ⊢
  by_cases hin : i < N
  · rwa [List.getElem?_take_of_lt hin] at hi
  · rw [List.getElem?_take_eq_none (by omega)] at hi
    cases hi
/-- the cells of one, in every world that came of this one -/
theorem NrsOk.row {w : World} {A : Option Addr} {c i m : Nat} {L : List Nr} {x : Nr} (h : NrsOk w A c L) (hx : L[i]? = some x) (hm : w.heap.size ≤ m) :
    ∃ b off, A = some ⟨b, off, none⟩ ∧ b < w.heap.size ∧ ∀ W, Below w.heap.size w W → W.cell? ⟨b, off + i * 6, none⟩ = some (.int .i64 x.k.fam) ∧ W.cell? ⟨b, off + i * 6 + 1, none⟩ = some (.int .u64 x.k.rd) ∧ W.cell? ⟨b, off + i * 6 + 2, none⟩ = some (.string x.k.addr) ∧ W.cell? ⟨b, off + i * 6 + 3, none⟩ = some (.int .i64 x.k.len) ∧ W.cell? ⟨b, off + i * 6 + 4, none⟩ = some (.int .u32 (x.k.id : Nat)) ∧ W.cell? ⟨b, off + i * 6 + 5, none⟩ = some (.int .u32 (x.label : Nat)) := by
  obtain ⟨b, off, hA, hb, hc⟩ := h.rd.at_ (i := i) (cs := x.cs) (by rw [List.getElem?_map, hx]; rfl)
  refine ⟨b, off, hA, hb, fun W hW => ?_⟩
  have g := fun j u hu => (hW.cell (p := ⟨b, off + i * 6 + j, none⟩) hb).trans (hc j u hu)
  exact ⟨g 0 _ rfl, g 1 _ rfl, g 2 _ rfl, g 3 _ rfl, g 4 _ rfl, g 5 _ rfl⟩
section
variable {H : Type} {enc : TypeId × Value → H} {w : World} {held : Bool}
end
end Go.Proofs.YtldpcliahfiloaaGreat
