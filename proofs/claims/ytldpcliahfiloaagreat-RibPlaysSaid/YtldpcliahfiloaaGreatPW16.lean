/-
  Several texts in one.
-/
import Derived.Test.YtldpcliahfiloaaGreatPW15
import Derived.Test.YtldpcliahfiloaaGreatPW9
import Derived.Test.YtldpcliahfiloaaGreatPW4
import Derived.Test.YtldpcliahfiloaaGreatPW11
import Derived.Deep.DeepCutAuto
import Derived.Test.YtldpcliahfiloaaGreatPW14
import Derived.Deep.MidRow
set_option linter.unusedVariables false
set_option linter.unusedSimpArgs false
namespace Go.Proofs.YtldpcliahfiloaaGreat
open Go.RowKit Go.MapKept Go.Shelf
open Go.ChangeShapes Go.WideShapes Go.ChangeAt Go.Deep
open Go.Lib hiding intOf

theorem flat_len {α : Type} {F : α → List Value} {C : Nat} (hF : ∀ a, (F a).length = C) : ∀ xs : List α, (xs.flatMap F).length = xs.length * C
  | [] => by simp
  | a :: r => by
    rw [List.flatMap_cons, List.length_append, flat_len hF r, hF, List.length_cons, Nat.succ_mul]
    omega
theorem flat_at {α : Type} {F : α → List Value} {C : Nat} (hF : ∀ a, (F a).length = C) : ∀ (xs : List α) (i : Nat) (x : α) (j : Nat) (u : Value), xs[i]? = some x → (F x)[j]? = some u → (xs.flatMap F)[i * C + j]? = some u
  | [], i, x, j, u, h, _ => by simp at h
  | a :: r, 0, x, j, u, h, hu => by
    simp only [List.getElem?_cons_zero, Option.some.injEq] at h
    subst h
    rw [List.flatMap_cons, Nat.zero_mul, Nat.zero_add, List.getElem?_append_left (List.getElem?_eq_some_iff.1 hu).1]
    exact hu
  | a :: r, i + 1, x, j, u, h, hu => by
    rw [List.getElem?_cons_succ] at h
    rw [List.flatMap_cons, List.getElem?_append_right (by rw [hF, Nat.succ_mul]; omega), hF, show (i + 1) * C + j - C = i * C + j by rw [Nat.succ_mul]; omega]
    exact flat_at hF r i x j u h hu
/-- a slice that a call made: these things -/
def OwnL {α : Type} (w : World) (base : Nat) (e : TypeId) (C : Nat) (F : α → List Value) (v : Value) (xs : List α) : Prop := OwnM w base e C v xs.length (xs.flatMap F)
section
variable {α : Type} {w w' : World} {base : Nat} {e : TypeId} {C : Nat} {F : α → List Value} {v : Value} {xs : List α}
theorem OwnL.nil (w : World) (base : Nat) (e : TypeId) (C : Nat) (F : α → List Value) : OwnL w base e C F (.slice none 0 0) [] := OwnM.nil w base e C
theorem OwnL.form (h : OwnL w base e C F v xs) : ∃ A c, v = .slice A xs.length c := OwnM.form h
theorem OwnL.alloc (h : OwnL w base e C F v xs) (o : Obj) : OwnL (w.alloc o) base e C F v xs := OwnM.alloc h o
theorem OwnL.drewN (h : OwnL w base e C F v xs) (n : Nat) : OwnL (w.drewN n) base e C F v xs := h
theorem OwnL.below {B : Nat} (h : OwnL w base e C F v xs) (hg : Below B w w') (hB : w.heap.size ≤ B) : OwnL w' base e C F v xs := OwnM.below h hg hB
theorem OwnL.snoc {x : α} (h : OwnM w base e C v (xs.length + 1) (xs.flatMap F ++ F x)) : OwnL w base e C F v (xs ++ [x]) := by
  show OwnM _ _ _ _ _ _ _
  rw [List.length_append, List.flatMap_append, List.flatMap_cons, List.flatMap_nil, List.append_nil]
  exact h
/-- read again -/
theorem OwnL.rd (hF : ∀ a, (F a).length = C) (h : OwnL w base e C F v xs) : ∃ A c, v = .slice A xs.length c ∧ Rd w A C (xs.map F) ∧ xs.length ≤ c ∧ c ≤ maxLen := by
  rcases Nat.eq_zero_or_pos xs.length with h0 | h0
  · obtain rfl : xs = [] := List.eq_nil_of_length_eq_zero h0
    rcases h.2 with ⟨h2, _⟩ | ⟨g, cap, cur, fr, h2, _, _, _, h4, h5, _⟩
    · exact ⟨none, 0, h2, fun hl => absurd hl (by simp), Nat.le_refl _, Nat.zero_le _⟩
    · exact ⟨_, cap, h2, fun hl => absurd hl (by simp), h4, h5⟩
  · obtain ⟨g, cap, hv, hb, hg, hn, hc, hcell, _⟩ := OwnM.cells h h0
    refine ⟨_, cap, hv, fun _ => ⟨g, 0, rfl, hg, fun i cs hi j u hu => ?_⟩, hn, hc⟩
    rw [List.getElem?_map] at hi
    cases hx : xs[i]? with
    | none => rw [hx] at hi; cases hi
    | some x =>
      rw [hx] at hi
      obtain rfl : F x = cs := Option.some.inj hi
      rw [Nat.zero_add]
      exact hcell _ u (flat_at hF xs i x j u hx hu)
end
/-- what a new block holds, as so many elements -/
theorem Src.block {P : Program} {w : World} {t2 e T : TypeId} {size m b c : Nat} {cs : Array Value} (ht : P.underlying t2 = some (.slice e)) (h : CellsAt w b cs T) (hs : cs.size = m * size) (h1 : ∀ u ∈ cs.toList, u.oneCell' = true) :
    Src P w t2 size (.slice (some ⟨b, 0, none⟩) m c) m cs.toList :=
  Src.slice ht (by rw [Array.length_toList, hs]) (fun j x hx => by
    rw [add_flat, h.c j]
    simpa using hx) h1
/-- a raw attribute -/
structure Rw where
  f : UInt8
  t : UInt8
  v : ByteArray
def Rw.cs (r : Rw) : List Value := [.int .u8 r.f.toNat, .int .u8 r.t.toNat, .string r.v]
theorem Rw.cs_len (r : Rw) : r.cs.length = 3 := rfl
structure RwsOk (w : World) (A : Option Addr) (cap : Nat) (L : List Rw) : Prop where
  rd : Rd w A 3 (L.map Rw.cs)
  len : L.length ≤ cap
  cap : cap ≤ 9223372036854775807
  fits : ∀ r ∈ L, r.v.size ≤ 9223372036854775807
theorem RwsOk.below {w w' : World} {A : Option Addr} {cap : Nat} {L : List Rw} {B : Nat} (h : RwsOk w A cap L) (hb : Below B w w') (hB : w.heap.size ≤ B) : RwsOk w' A cap L := ⟨h.rd.below hb hB, h.len, h.cap, h.fits⟩
section
variable {H : Type} {enc : TypeId × Value → H} {w : World} {held : Bool}
end
end Go.Proofs.YtldpcliahfiloaaGreat
set_option linter.unusedVariables false
set_option linter.unusedSimpArgs false
namespace Go.Proofs.YtldpcliahfiloaaGreat
open Go.RowKit Go.MapKept Go.Shelf
open Go.Lib hiding intOf

def hd (s : ByteArray) (n : Nat) : Nat := beVal (s.data.toList.take n)
theorem OwnL.grown {α : Type} {w w' : World} {base : Nat} {e : TypeId} {C : Nat} {F : α → List Value} {v : Value} {xs : List α} {row : Option Nat} (h : OwnL w base e C F v xs) (hg : w.grownBy w' row) (hne : ∀ k, row = some k → k < base) : OwnL w' base e C F v xs :=
  OwnM.grown h hg (fun k hk e2 => by
    have h1 := (OwnM.lt h k hk).1
    have h2 := hne k e2.symm
    omega)
end Go.Proofs.YtldpcliahfiloaaGreat
set_option linter.unusedVariables false
set_option linter.unusedSimpArgs false
namespace Go.Proofs.YtldpcliahfiloaaGreat
open Go.RowKit Go.MapKept Go.Shelf
open Go.Lib hiding intOf

/-- a list of bytes as a string -/
def bts (l : List UInt8) : ByteArray := ⟨l.toArray⟩
theorem fits (x k : Nat) (hk : k ≤ 64) (h : x < 2 ^ k) : Lib.bitLen x ≤ k := Lib.bitLen_le x k hk h
/-- an AS number's bytes -/
def asB (four : Bool) (n : Nat) : List UInt8 := if four = true then beB n 4 4 else if 65535 < n then beB 23456 2 2 else beB n 2 2
def segB (four : Bool) (s : Int × List Nat) : List UInt8 := beB s.1.toNat 1 1 ++ beB s.2.length 1 1 ++ s.2.flatMap (asB four)
/-- a path's bytes -/
def pathB (four : Bool) (l : List (Int × List Nat)) : List UInt8 := l.flatMap (segB four)
end Go.Proofs.YtldpcliahfiloaaGreat
set_option linter.unusedVariables false
set_option linter.unusedSimpArgs false
namespace Go.Proofs.YtldpcliahfiloaaGreat
open Go.RowKit Go.MapKept Go.Shelf
open Go.Lib hiding intOf

def sizeOf4 (four : Bool) : Nat := if four = true then 4 else 2
theorem Sg.cs_len (s : Sg) : s.cs.length = 2 := rfl
def u1 (n : Nat) : List Value := [.int .u32 n]
theorem u1_len (n : Nat) : (u1 n).length = 1 := rfl
/-- segments that a call made -/
structure SegsOwn (w : World) (base : Nat) (v : Value) (l : List (Int × List Nat)) : Prop where
  c : ∃ segs : List Sg, OwnL w base 88 2 Sg.cs v segs ∧ segs.map Sg.c = l ∧ ∀ s ∈ segs, OwnL w base 33 1 u1 (.slice s.A s.as_.length s.cap) s.as_ ∧ (∀ n ∈ s.as_, n < 4294967296) ∧ -9223372036854775808 ≤ s.kind ∧ s.kind ≤ 9223372036854775807
theorem SegsOwn.nil (w : World) (base : Nat) : SegsOwn w base (.slice none 0 0) [] := ⟨[], OwnL.nil _ _ _ _ _, rfl, fun s h => by cases h⟩
theorem SegsOwn.grown {w w' : World} {base : Nat} {v : Value} {l : List (Int × List Nat)} {row : Option Nat} (h : SegsOwn w base v l) (hg : w.grownBy w' row) (hne : ∀ k, row = some k → k < base) : SegsOwn w' base v l := by
  obtain ⟨segs, h1, h2, h3⟩ := h.c
  exact ⟨segs, h1.grown hg hne, h2, fun s hs => ⟨(h3 s hs).1.grown hg hne, (h3 s hs).2⟩⟩
theorem SegsOwn.below {w w' : World} {base : Nat} {v : Value} {l : List (Int × List Nat)} (h : SegsOwn w base v l) (hb : Below w.heap.size w w') : SegsOwn w' base v l := by
  obtain ⟨segs, h1, h2, h3⟩ := h.c
  exact ⟨segs, h1.below hb (Nat.le_refl _), h2, fun s hs => ⟨(h3 s hs).1.below hb (Nat.le_refl _), (h3 s hs).2⟩⟩
theorem OwnL.slice {α : Type} {w : World} {base : Nat} {e : TypeId} {C : Nat} {F : α → List Value} {A : Option Addr} {c : Nat} {xs : List α} (hF : ∀ a, (F a).length = C) (h : OwnL w base e C F (.slice A xs.length c) xs) : Rd w A C (xs.map F) ∧ xs.length ≤ c ∧ c ≤ maxLen := by
  obtain ⟨A2, c2, hv, h1, h2, h3⟩ := h.rd hF
  cases hv
  exact ⟨h1, h2, h3⟩
theorem SegsOwn.ok {w : World} {base : Nat} {v : Value} {l : List (Int × List Nat)} (h : SegsOwn w base v l) : ∃ A segs c, v = .slice A segs.length c ∧ SegsOk w A c segs ∧ segs.map Sg.c = l := by
  obtain ⟨segs, h1, h2, h3⟩ := h.c
  obtain ⟨A, c, rfl, hrd, hl, hc⟩ := h1.rd Sg.cs_len
  refine ⟨A, segs, c, rfl, ⟨hrd, fun s hs => ?_, hl, hc⟩, h2⟩
  obtain ⟨h4, h5, h6⟩ := h3 s hs
  obtain ⟨r1, r2, r3⟩ := h4.slice u1_len
  exact ⟨r1, r2, r3, h5, h6⟩
theorem infoSeg : (Tryz.prog.info? 88).map (fun i => (i.zero, i.size, i.bytes)) = some (some (.agg #[.int .i64 0, .slice none 0 0]), 2, 32) := by kernel_rfl
theorem infoU32 : (Tryz.prog.info? 33).map (fun i => (i.zero, i.size, i.bytes)) = some (some (.int .u32 0), 1, 4) := by kernel_rfl
end Go.Proofs.YtldpcliahfiloaaGreat
set_option linter.unusedVariables false
set_option linter.unusedSimpArgs false
namespace Go.Proofs.YtldpcliahfiloaaGreat
open Go.RowKit Go.MapKept Go.Shelf
open Go.Lib hiding intOf

/-- segments that a call made, as they lie -/
structure SegsO (w : World) (base : Nat) (v : Value) (segs : List Sg) : Prop where
  own : OwnL w base 88 2 Sg.cs v segs
  as_ : ∀ s ∈ segs, OwnL w base 33 1 u1 (.slice s.A s.as_.length s.cap) s.as_ ∧ (∀ n ∈ s.as_, n < 4294967296) ∧ -9223372036854775808 ≤ s.kind ∧ s.kind ≤ 9223372036854775807
theorem SegsO.nil (w : World) (base : Nat) : SegsO w base (.slice none 0 0) [] := ⟨OwnL.nil _ _ _ _ _, fun s h => by cases h⟩
theorem SegsO.segs {w : World} {base : Nat} {v : Value} {segs : List Sg} (h : SegsO w base v segs) : SegsOwn w base v (segs.map Sg.c) := ⟨segs, h.own, rfl, h.as_⟩
theorem SegsO.keep {w w' : World} {base : Nat} {v : Value} {segs : List Sg} (h : SegsO w base v segs) (hk : ∀ i, base ≤ i → i < w.heap.size → w'.heap[i]? = w.heap[i]?) : SegsO w' base v segs :=
  ⟨OwnM.keep h.own (fun k e => hk k (OwnM.lt h.own k e).1 (OwnM.lt h.own k e).2), fun s hs => ⟨OwnM.keep (h.as_ s hs).1 (fun k e => hk k (OwnM.lt (h.as_ s hs).1 k e).1 (OwnM.lt (h.as_ s hs).1 k e).2), (h.as_ s hs).2⟩⟩
/-- nothing below g has turned but the block rb -/
structure Kp (V w : World) (rb g : Nat) : Prop where
  k : ∀ i, i < g → i ≠ rb → w.heap[i]? = V.heap[i]?
  s : g < w.heap.size
theorem Kp.grown {V w w' : World} {rb g : Nat} {row : Option Nat} (h : Kp V w rb g) (hg : w.grownBy w' row) (hr : ∀ k, row = some k → k = rb ∨ g ≤ k) : Kp V w' rb g :=
  ⟨fun i hi hn => (hg.block i (Nat.lt_trans hi h.s) (fun e => by
    rcases hr i e.symm with h1 | h1
    · exact hn h1
    · omega)).trans (h.k i hi hn), Nat.lt_of_lt_of_le h.s hg.size⟩
theorem Kp.below {V w w' : World} {rb g : Nat} (h : Kp V w rb g) (hg : Below w.heap.size w w') : Kp V w' rb g :=
  ⟨fun i hi hn => (hg.block i (Nat.lt_trans hi h.s)).trans (h.k i hi hn), Nat.lt_of_lt_of_le h.s hg.size⟩
theorem CellsAt.unfrz {w : World} {b : Nat} {cs : Array Value} {T : TypeId} (h : CellsAt w b cs T) (i : Nat) : w.frozen? ⟨b, i, none⟩ = false := by
  have h2 : w.heap[b]? = some (.cells cs T (0, 0)) := h
  simp only [World.frozen?, h2]
  exact Bool.and_eq_false_iff.2 (.inr (by simp))
theorem own_ne {w : World} {b b' : Nat} {e e' : TypeId} {s s' n n' : Nat} {v v' : Value} {xs xs' : List Value} (h : OwnM w b e s v n xs) (h' : OwnM w b' e' s' v' n' xs') (he : e ≠ e') : ∀ k, v.ownBlock = some k → some k ≠ v'.ownBlock := fun k hk hk' => by
  rcases h.2 with ⟨rfl, _⟩ | ⟨g, cap, cur, fr, rfl, _, hg, _⟩
  · simp [Value.ownBlock] at hk
  · rcases h'.2 with ⟨rfl, _⟩ | ⟨g', cap', cur', fr', rfl, _, hg', _⟩
    · simp [Value.ownBlock] at hk'
    · simp [Value.ownBlock] at hk hk'
      subst hk
      subst hk'
      rw [hg] at hg'
      injection hg' with hq
      injection hq with _ hq2
      exact he hq2
end Go.Proofs.YtldpcliahfiloaaGreat
set_option linter.unusedVariables false
set_option linter.unusedSimpArgs false
namespace Go.Proofs.YtldpcliahfiloaaGreat
open Go.RowKit Go.MapKept Go.Shelf
open Go.Lib hiding intOf

theorem attrs_size : (Tryz.prog.info? 41).map (·.size) = some 16 := by kernel_rfl
theorem attrs_under : ∃ fs, Tryz.prog.underlying 41 = some (.struct fs) := ⟨_, Tryz.underlying41⟩
theorem CellsAt.range {w : World} {b : Nat} {T : TypeId} {cs : Array Value} (h : CellsAt w b cs T) : w.rangeAt b 0 cs.toList := fun j v hv => by
  rw [Nat.zero_add, h.c j]
  simpa using hv
theorem wpList_load_attrs {ops : Array Oper} {rest : List Oper} {op : Oper} {a : Act} {w : World} {Q : Exit → Act → World → Prop} (hgd : op.guard = none) (src : Operand) (ho : op.op = .load 41 src) (b : Nat) (hx : a.eval src = .pointer (some ⟨b, 0, none⟩)) (p : Atr) (hc : CellsAt w b p.ar 41)
    (h : wpList Tryz.prog ops Q rest (a.put op.dst p.v) w) : wpList Tryz.prog ops Q (op :: rest) a w := by
  obtain ⟨fs, hu⟩ := attrs_under
  exact wpList_load_mid hgd 41 src ho b 0 hx p.ar.toList _ hc.range hu rfl (by rw [attrs_size]; rfl) h
def optR (is : Bool) (f t : UInt8) (v : ByteArray) : List Rw := if is = true then [⟨f, t, v⟩] else []
theorem CellsAt.unfrozen {w : World} {b : Nat} {cs : Array Value} {T : TypeId} (h : CellsAt w b cs T) (i : Nat) : w.frozen? ⟨b, i, none⟩ = false := by
  have h2 : w.heap[b]? = some (.cells cs T (0, 0)) := h
  simp only [World.frozen?, h2]
  exact Bool.and_eq_false_iff.2 (.inr (by simp))
end Go.Proofs.YtldpcliahfiloaaGreat
