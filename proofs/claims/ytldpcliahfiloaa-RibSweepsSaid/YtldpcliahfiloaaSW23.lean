/-
  Several texts in one.
-/
import Derived.Test.YtldpcliahfiloaaSW22
import Derived.Test.YtldpcliahfiloaaSW16
import Derived.Test.YtldpcliahfiloaaSW7
set_option linter.unusedVariables false
set_option linter.unusedSimpArgs false
namespace Go.Proofs.Ytldpcliahfiloaa
open Go.RowKit Go.MapKept Go.Shelf
open Go.ChangeShapes Go.WideShapes Go.ChangeAt Go.Deep
open Go.Lib hiding intOf

theorem flat_len {α : Type} {F : α → List Value} {C : Nat} (hF : ∀ a, (F a).length = C) : ∀ xs : List α, (xs.flatMap F).length = xs.length * C
  | [] => by simp
  | a :: r => by
    rw [List.flatMap_cons, List.length_append, flat_len hF r, hF, List.length_cons, Nat.succ_mul]
    omega
theorem flat_at {α : Type} {F : α → List Value} {C : Nat} (hF : ∀ a, (F a).length = C) : ∀ (xs : List α) (i : Nat) (x : α) (j : Nat) (u : Value), xs[i]? = some x → (F x)[j]? = some u → (xs.flatMap F)[i * C + j]? = some u
  | [], i, x, j, u, h, _ => by simp at h
  | a :: r, 0, x, j, u, h, hu => by
    simp only [List.getElem?_cons_zero, Option.some.injEq] at h
    subst h
    rw [List.flatMap_cons, Nat.zero_mul, Nat.zero_add, List.getElem?_append_left (List.getElem?_eq_some_iff.1 hu).1]
    exact hu
  | a :: r, i + 1, x, j, u, h, hu => by
    rw [List.getElem?_cons_succ] at h
    rw [List.flatMap_cons, List.getElem?_append_right (by rw [hF, Nat.succ_mul]; omega), hF, show (i + 1) * C + j - C = i * C + j by rw [Nat.succ_mul]; omega]
    exact flat_at hF r i x j u h hu
/-- a slice that a call made: these things -/
def OwnL {α : Type} (w : World) (base : Nat) (e : TypeId) (C : Nat) (F : α → List Value) (v : Value) (xs : List α) : Prop := OwnM w base e C v xs.length (xs.flatMap F)
section
variable {α : Type} {w w' : World} {base : Nat} {e : TypeId} {C : Nat} {F : α → List Value} {v : Value} {xs : List α}
theorem OwnL.nil (w : World) (base : Nat) (e : TypeId) (C : Nat) (F : α → List Value) : OwnL w base e C F (.slice none 0 0) [] := OwnM.nil w base e C
theorem OwnL.form (h : OwnL w base e C F v xs) : ∃ A c, v = .slice A xs.length c := OwnM.form h
theorem OwnL.alloc (h : OwnL w base e C F v xs) (o : Obj) : OwnL (w.alloc o) base e C F v xs := OwnM.alloc h o
theorem OwnL.drewN (h : OwnL w base e C F v xs) (n : Nat) : OwnL (w.drewN n) base e C F v xs := h
theorem OwnL.below {B : Nat} (h : OwnL w base e C F v xs) (hg : Below B w w') (hB : w.heap.size ≤ B) : OwnL w' base e C F v xs := OwnM.below h hg hB
/-- read again -/
theorem OwnL.rd (hF : ∀ a, (F a).length = C) (h : OwnL w base e C F v xs) : ∃ A c, v = .slice A xs.length c ∧ Rd w A C (xs.map F) ∧ xs.length ≤ c ∧ c ≤ maxLen := by
  rcases Nat.eq_zero_or_pos xs.length with h0 | h0
  · obtain rfl : xs = [] := List.eq_nil_of_length_eq_zero h0
    rcases h.2 with ⟨h2, _⟩ | ⟨g, cap, cur, fr, h2, _, _, _, h4, h5, _⟩
    · exact ⟨none, 0, h2, fun hl => absurd hl (by simp), Nat.le_refl _, Nat.zero_le _⟩
    · exact ⟨_, cap, h2, fun hl => absurd hl (by simp), h4, h5⟩
  · obtain ⟨g, cap, hv, hb, hg, hn, hc, hcell, _⟩ := OwnM.cells h h0
    refine ⟨_, cap, hv, fun _ => ⟨g, 0, rfl, hg, fun i cs hi j u hu => ?_⟩, hn, hc⟩
    rw [List.getElem?_map] at hi
    cases hx : xs[i]? with
    | none => rw [hx] at hi; cases hi
    | some x =>
      rw [hx] at hi
      obtain rfl : F x = cs := Option.some.inj hi
      rw [Nat.zero_add]
      exact hcell _ u (flat_at hF xs i x j u hx hu)
end
/-- what a new block holds, as so many elements -/
theorem Src.block {P : Program} {w : World} {t2 e T : TypeId} {size m b c : Nat} {cs : Array Value} (ht : P.underlying t2 = some (.slice e)) (h : CellsAt w b cs T) (hs : cs.size = m * size) (h1 : ∀ u ∈ cs.toList, u.oneCell' = true) :
    Src P w t2 size (.slice (some ⟨b, 0, none⟩) m c) m cs.toList :=
  Src.slice ht (by rw [Array.length_toList, hs]) (fun j x hx => by
    rw [add_flat, h.c j]
    simpa using hx) h1
/-- a raw attribute -/
structure Rw where
  f : UInt8
  t : UInt8
  v : ByteArray
def Rw.cs (r : Rw) : List Value := [.int .u8 r.f.toNat, .int .u8 r.t.toNat, .string r.v]
theorem Rw.cs_len (r : Rw) : r.cs.length = 3 := rfl
structure RwsOk (w : World) (A : Option Addr) (cap : Nat) (L : List Rw) : Prop where
  rd : Rd w A 3 (L.map Rw.cs)
  len : L.length ≤ cap
  cap : cap ≤ 9223372036854775807
  fits : ∀ r ∈ L, r.v.size ≤ 9223372036854775807
theorem RwsOk.below {w w' : World} {A : Option Addr} {cap : Nat} {L : List Rw} {B : Nat} (h : RwsOk w A cap L) (hb : Below B w w') (hB : w.heap.size ≤ B) : RwsOk w' A cap L := ⟨h.rd.below hb hB, h.len, h.cap, h.fits⟩
section
variable {H : Type} {enc : TypeId × Value → H} {w : World} {held : Bool}
end
end Go.Proofs.Ytldpcliahfiloaa
