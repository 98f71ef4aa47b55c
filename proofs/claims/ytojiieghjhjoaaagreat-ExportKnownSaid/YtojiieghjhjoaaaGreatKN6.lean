/-
  Several texts in one.
-/
import Derived.Test.YtojiieghjhjoaaaGreatKN5
import Derived.Test.YtojiieghjhjoaaaGreatKN1
import Derived.Handy
import Derived.WalkSpells
import Derived.WalkLawsBesides
import Derived.LoopTactic
import Derived.Deep.QuietTactic
import Derived.BigQuiet
import Derived.Test.YtojiieghjhjoaaaGreatKN3
import Derived.Test.YtojiieghjhjoaaaGreatKN4
import Derived.SizedLaws
set_option linter.unusedVariables false
set_option linter.unusedSimpArgs false
namespace Go.Proofs.YtojiieghjhjoaaaGreat
open Go.RowKit

/-- is a number among others? -/
def hasN (l : List Nat) (n : Int) : Bool := l.any fun x => (x : Int) == n
theorem hasN_take {l : List Nat} {k : Nat} {x : Nat} (n : Int) (h : l[k]? = some x) : hasN (l.take (k + 1)) n = (hasN (l.take k) n || (x : Int) == n) := by
  unfold hasN
  rw [List.take_add_one, h, Option.toList_some, List.any_append, List.any_cons, List.any_nil, Bool.or_false]
theorem hasN_yes {l : List Nat} {k : Nat} {x : Nat} {n : Int} (h : l[k]? = some x) (he : (x : Int) = n) : hasN l n = true := by
  unfold hasN
  exact List.any_eq_true.2 ⟨x, List.mem_of_getElem? h, by rw [he]; simp⟩
/-- each less than the next one -/
def riseB {α : Type} (lt : α → α → Bool) : List α → Bool
  | a :: b :: r => lt a b && riseB lt (b :: r)
  | _ => true
theorem riseB_iff {α : Type} (lt : α → α → Bool) : ∀ l : List α, riseB lt l = true ↔ ∀ i a b, l[i]? = some a → l[i + 1]? = some b → lt a b = true
  | [] => ⟨fun _ i a b h => (by simp at h), fun _ => rfl⟩
  | [a] => ⟨fun _ i a b h h2 => (by simp at h2), fun _ => rfl⟩
  | a :: b :: r => by
    rw [riseB, Bool.and_eq_true, riseB_iff lt (b :: r)]
    constructor
    · rintro ⟨h1, h2⟩ i x y hx hy
      cases i with
      | zero =>
        simp only [List.getElem?_cons_zero, Option.some.injEq, Nat.zero_add, List.getElem?_cons_succ] at hx hy
        subst hx
        subst hy
        exact h1
      | succ i => exact h2 i x y (by simpa using hx) (by simpa using hy)
    · intro h
      exact ⟨h 0 a b rfl rfl, fun i x y hx hy => h (i + 1) x y (by simpa using hx) (by simpa using hy)⟩
theorem riseB_one {α : Type} (lt : α → α → Bool) (l : List α) : riseB lt (l.take 1) = true := by
  cases l <;> rfl
theorem riseB_next {α : Type} {lt : α → α → Bool} {l : List α} {k : Nat} {a b : α} (h : riseB lt (l.take k) = true) (hk : 1 ≤ k) (ha : l[k - 1]? = some a) (hb : l[k]? = some b) (hl : lt a b = true) : riseB lt (l.take (k + 1)) = true := by
  rw [riseB_iff] at h ⊢
  intro i x y hx hy
  rw [List.getElem?_take] at hx hy
  split at hy
  · split at hx
    · by_cases e : i + 1 = k
      · have e2 : i = k - 1 := by omega
        rw [e, hb] at hy
        rw [e2, ha] at hx
        cases hx
        cases hy
        exact hl
      · exact h i x y (by rw [List.getElem?_take, if_pos (by omega)]; exact hx) (by rw [List.getElem?_take, if_pos (by omega)]; exact hy)
    · cases hx
  · cases hy
theorem riseB_stop {α : Type} {lt : α → α → Bool} {l : List α} {k : Nat} {a b : α} (hk : 1 ≤ k) (ha : l[k - 1]? = some a) (hb : l[k]? = some b) (hl : lt a b = false) : riseB lt l = false := by
  rw [Bool.eq_false_iff]
  intro h
  rw [riseB_iff] at h
  have := h (k - 1) a b ha (by rw [show k - 1 + 1 = k by omega]; exact hb)
  rw [hl] at this
  cases this
def ltN (a b : Nat) : Bool := decide (a < b)
def ltL (a b : Lg) : Bool := if a.g = b.g then (if a.a = b.a then decide (a.b < b.b) else decide (a.a < b.a)) else decide (a.g < b.g)
/-- may a segment be? -/
def segOk (s : Int × List Nat) : Bool := decide (1 ≤ s.1) && decide (s.1 ≤ 4) && decide (1 ≤ s.2.length) && decide (s.2.length ≤ 255) && !hasN s.2 0
def pathOk (l : List (Int × List Nat)) : Bool := decide (l.length ≤ 16) && l.all segOk
def okN (b : Bool) : Int := if b = true then 0 else 2
def nextOk (n : ByteArray) : Bool := n.size == 0 || n.size == 4 || n.size == 16
def spareOk (c : AtC) : Bool := (c.hasMed || c.med == 0) && (c.hasPref || c.pref == 0) && (c.hasOrig || c.orig == 0) && (!(c.aggAs == 0) || c.aggId == 0)
def listsOk (c : AtC) : Bool := decide (c.clus.length ≤ 32) && (riseB ltN c.comms && decide (c.comms.length ≤ 64)) && (riseB ltN c.exts && decide (c.exts.length ≤ 64)) && (riseB ltL c.larges && decide (c.larges.length ≤ 64))
def atOk (c : AtC) : Bool := decide (0 ≤ c.origin) && decide (c.origin ≤ 2) && pathOk c.path && nextOk c.next && spareOk c && listsOk c
end Go.Proofs.YtojiieghjhjoaaaGreat
set_option linter.unusedVariables false
set_option linter.unusedSimpArgs false
namespace Go.Proofs.YtojiieghjhjoaaaGreat
open Go.RowKit

/-- bytes as a number, the highest first -/
def beVal (l : List UInt8) : Nat := l.foldl (fun v b => v * 256 + b.toNat) 0
/-- a block of one number -/
def NumAt (w : World) (g : Nat) (v : Int) : Prop := w.heap[g]? = some (.cells #[.int .u64 v] 25 (0, 0))
theorem NumAt.c {w : World} {g : Nat} {v : Int} (h : NumAt w g v) : w.cell? ⟨g, 0, none⟩ = some (.int .u64 v) := (cell_of_row w g 0 _ _ _ h).trans rfl
theorem NumAt.fz {w : World} {g : Nat} {v : Int} (h : NumAt w g v) : w.frozen? ⟨g, 0, none⟩ = false := by
  unfold NumAt at h
  simp [World.frozen?, h]
theorem NumAt.set {w : World} {g : Nat} {v : Int} (h : NumAt w g v) (u : Int) : NumAt (w.setCell ⟨g, 0, none⟩ (.int .u64 u)) g u := by
  unfold NumAt at h ⊢
  simp [World.setCell, Array.getElem?_modify, h]
theorem NumAt.new (w : World) (v : Int) : NumAt (w.alloc (.cells #[.int .u64 v] 25)) w.heap.size v := heap_alloc_new w _

end Go.Proofs.YtojiieghjhjoaaaGreat
set_option linter.unusedVariables false
set_option linter.unusedSimpArgs false
namespace Go.Proofs.YtojiieghjhjoaaaGreat
open Go.RowKit

theorem infoU8 : (Tryz.prog.info? 5).map (fun i => (i.zero, i.size, i.bytes)) = some (some (.int .u8 0), 1, 1) := by kernel_rfl

/-- the first k of size bytes of v, the highest first -/
def beB (v size k : Nat) : List UInt8 := (List.range k).map fun j => UInt8.ofNat (v / 2 ^ (8 * (size - 1 - j)))
end Go.Proofs.YtojiieghjhjoaaaGreat
set_option linter.unusedVariables false
set_option linter.unusedSimpArgs false
namespace Go.Proofs.YtojiieghjhjoaaaGreat
open Go.RowKit Go.MapKept Go.Shelf
open Go.ChangeShapes Go.WideShapes Go.ChangeAt Go.Deep
open Go.Lib hiding intOf

theorem flat_len {α : Type} {F : α → List Value} {C : Nat} (hF : ∀ a, (F a).length = C) : ∀ xs : List α, (xs.flatMap F).length = xs.length * C
  | [] => by simp
  | a :: r => by
    rw [List.flatMap_cons, List.length_append, flat_len hF r, hF, List.length_cons, Nat.succ_mul]
    omega
theorem flat_at {α : Type} {F : α → List Value} {C : Nat} (hF : ∀ a, (F a).length = C) : ∀ (xs : List α) (i : Nat) (x : α) (j : Nat) (u : Value), xs[i]? = some x → (F x)[j]? = some u → (xs.flatMap F)[i * C + j]? = some u
  | [], i, x, j, u, h, _ => by simp at h
  | a :: r, 0, x, j, u, h, hu => by
    simp only [List.getElem?_cons_zero, Option.some.injEq] at h
    subst h
    rw [List.flatMap_cons, Nat.zero_mul, Nat.zero_add, List.getElem?_append_left (List.getElem?_eq_some_iff.1 hu).1]
    exact hu
  | a :: r, i + 1, x, j, u, h, hu => by
    rw [List.getElem?_cons_succ] at h
    rw [List.flatMap_cons, List.getElem?_append_right (by rw [hF, Nat.succ_mul]; omega), hF, show (i + 1) * C + j - C = i * C + j by rw [Nat.succ_mul]; omega]
    exact flat_at hF r i x j u h hu
/-- a slice that a call made: these things -/
def OwnL {α : Type} (w : World) (base : Nat) (e : TypeId) (C : Nat) (F : α → List Value) (v : Value) (xs : List α) : Prop := OwnM w base e C v xs.length (xs.flatMap F)
section
variable {α : Type} {w w' : World} {base : Nat} {e : TypeId} {C : Nat} {F : α → List Value} {v : Value} {xs : List α}
theorem OwnL.nil (w : World) (base : Nat) (e : TypeId) (C : Nat) (F : α → List Value) : OwnL w base e C F (.slice none 0 0) [] := OwnM.nil w base e C
theorem OwnL.form (h : OwnL w base e C F v xs) : ∃ A c, v = .slice A xs.length c := OwnM.form h
theorem OwnL.alloc (h : OwnL w base e C F v xs) (o : Obj) : OwnL (w.alloc o) base e C F v xs := OwnM.alloc h o
theorem OwnL.drewN (h : OwnL w base e C F v xs) (n : Nat) : OwnL (w.drewN n) base e C F v xs := h
theorem OwnL.below {B : Nat} (h : OwnL w base e C F v xs) (hg : Below B w w') (hB : w.heap.size ≤ B) : OwnL w' base e C F v xs := OwnM.below h hg hB
theorem OwnL.snoc {x : α} (h : OwnM w base e C v (xs.length + 1) (xs.flatMap F ++ F x)) : OwnL w base e C F v (xs ++ [x]) := by
  show OwnM _ _ _ _ _ _ _
  rw [List.length_append, List.flatMap_append, List.flatMap_cons, List.flatMap_nil, List.append_nil]
  exact h
/-- read again -/
theorem OwnL.rd (hF : ∀ a, (F a).length = C) (h : OwnL w base e C F v xs) : ∃ A c, v = .slice A xs.length c ∧ Rd w A C (xs.map F) ∧ xs.length ≤ c ∧ c ≤ maxLen := by
  rcases Nat.eq_zero_or_pos xs.length with h0 | h0
  · obtain rfl : xs = [] := List.eq_nil_of_length_eq_zero h0
    rcases h.2 with ⟨h2, _⟩ | ⟨g, cap, cur, fr, h2, _, _, _, h4, h5, _⟩
    · exact ⟨none, 0, h2, fun hl => absurd hl (by simp), Nat.le_refl _, Nat.zero_le _⟩
    · exact ⟨_, cap, h2, fun hl => absurd hl (by simp), h4, h5⟩
  · obtain ⟨g, cap, hv, hb, hg, hn, hc, hcell, _⟩ := OwnM.cells h h0
    refine ⟨_, cap, hv, fun _ => ⟨g, 0, rfl, hg, fun i cs hi j u hu => ?_⟩, hn, hc⟩
    rw [List.getElem?_map] at hi
    cases hx : xs[i]? with
    | none => rw [hx] at hi; cases hi
    | some x =>
      rw [hx] at hi
      obtain rfl : F x = cs := Option.some.inj hi
      rw [Nat.zero_add]
      exact hcell _ u (flat_at hF xs i x j u hx hu)
end
/-- what a new block holds, as so many elements -/
theorem Src.block {P : Program} {w : World} {t2 e T : TypeId} {size m b c : Nat} {cs : Array Value} (ht : P.underlying t2 = some (.slice e)) (h : CellsAt w b cs T) (hs : cs.size = m * size) (h1 : ∀ u ∈ cs.toList, u.oneCell' = true) :
    Src P w t2 size (.slice (some ⟨b, 0, none⟩) m c) m cs.toList :=
  Src.slice ht (by rw [Array.length_toList, hs]) (fun j x hx => by
    rw [add_flat, h.c j]
    simpa using hx) h1
/-- a raw attribute -/
structure Rw where
  f : UInt8
  t : UInt8
  v : ByteArray
def Rw.cs (r : Rw) : List Value := [.int .u8 r.f.toNat, .int .u8 r.t.toNat, .string r.v]
theorem Rw.cs_len (r : Rw) : r.cs.length = 3 := rfl
structure RwsOk (w : World) (A : Option Addr) (cap : Nat) (L : List Rw) : Prop where
  rd : Rd w A 3 (L.map Rw.cs)
  len : L.length ≤ cap
  cap : cap ≤ 9223372036854775807
  fits : ∀ r ∈ L, r.v.size ≤ 9223372036854775807
theorem RwsOk.below {w w' : World} {A : Option Addr} {cap : Nat} {L : List Rw} {B : Nat} (h : RwsOk w A cap L) (hb : Below B w w') (hB : w.heap.size ≤ B) : RwsOk w' A cap L := ⟨h.rd.below hb hB, h.len, h.cap, h.fits⟩
section
variable {H : Type} {enc : TypeId × Value → H} {w : World} {held : Bool}
end
end Go.Proofs.YtojiieghjhjoaaaGreat
set_option linter.unusedVariables false
set_option linter.unusedSimpArgs false
namespace Go.Proofs.YtojiieghjhjoaaaGreat
open Go.RowKit Go.MapKept Go.Shelf
open Go.Lib hiding intOf

def hd (s : ByteArray) (n : Nat) : Nat := beVal (s.data.toList.take n)
theorem OwnL.grown {α : Type} {w w' : World} {base : Nat} {e : TypeId} {C : Nat} {F : α → List Value} {v : Value} {xs : List α} {row : Option Nat} (h : OwnL w base e C F v xs) (hg : w.grownBy w' row) (hne : ∀ k, row = some k → k < base) : OwnL w' base e C F v xs :=
  OwnM.grown h hg (fun k hk e2 => by
    have h1 := (OwnM.lt h k hk).1
    have h2 := hne k e2.symm
    omega)
end Go.Proofs.YtojiieghjhjoaaaGreat
