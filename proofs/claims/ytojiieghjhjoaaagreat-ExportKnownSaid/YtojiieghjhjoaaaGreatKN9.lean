/-
  Several texts in one.
-/
import Derived.Test.YtojiieghjhjoaaaGreatKN6
import Derived.Test.YtojiieghjhjoaaaGreatKN8
import Derived.Deep.DeepCutAuto
set_option linter.unusedVariables false
set_option linter.unusedSimpArgs false
namespace Go.Proofs.YtojiieghjhjoaaaGreat
open Go.RowKit Go.MapKept Go.Shelf
open Go.Lib hiding intOf

/-- a list of bytes as a string -/
def bts (l : List UInt8) : ByteArray := ⟨l.toArray⟩
theorem fits (x k : Nat) (hk : k ≤ 64) (h : x < 2 ^ k) : Lib.bitLen x ≤ k := Lib.bitLen_le x k hk h
/-- an AS number's bytes -/
def asB (four : Bool) (n : Nat) : List UInt8 := if four = true then beB n 4 4 else if 65535 < n then beB 23456 2 2 else beB n 2 2
def segB (four : Bool) (s : Int × List Nat) : List UInt8 := beB s.1.toNat 1 1 ++ beB s.2.length 1 1 ++ s.2.flatMap (asB four)
/-- a path's bytes -/
def pathB (four : Bool) (l : List (Int × List Nat)) : List UInt8 := l.flatMap (segB four)
end Go.Proofs.YtojiieghjhjoaaaGreat
set_option linter.unusedVariables false
set_option linter.unusedSimpArgs false
namespace Go.Proofs.YtojiieghjhjoaaaGreat
open Go.RowKit Go.MapKept Go.Shelf
open Go.Lib hiding intOf

def sizeOf4 (four : Bool) : Nat := if four = true then 4 else 2
theorem Sg.cs_len (s : Sg) : s.cs.length = 2 := rfl
def u1 (n : Nat) : List Value := [.int .u32 n]
theorem u1_len (n : Nat) : (u1 n).length = 1 := rfl
/-- segments that a call made -/
structure SegsOwn (w : World) (base : Nat) (v : Value) (l : List (Int × List Nat)) : Prop where
  c : ∃ segs : List Sg, OwnL w base 67 2 Sg.cs v segs ∧ segs.map Sg.c = l ∧ ∀ s ∈ segs, OwnL w base 22 1 u1 (.slice s.A s.as_.length s.cap) s.as_ ∧ (∀ n ∈ s.as_, n < 4294967296) ∧ -9223372036854775808 ≤ s.kind ∧ s.kind ≤ 9223372036854775807
theorem SegsOwn.nil (w : World) (base : Nat) : SegsOwn w base (.slice none 0 0) [] := ⟨[], OwnL.nil _ _ _ _ _, rfl, fun s h => by cases h⟩
theorem SegsOwn.grown {w w' : World} {base : Nat} {v : Value} {l : List (Int × List Nat)} {row : Option Nat} (h : SegsOwn w base v l) (hg : w.grownBy w' row) (hne : ∀ k, row = some k → k < base) : SegsOwn w' base v l := by
  obtain ⟨segs, h1, h2, h3⟩ := h.c
  exact ⟨segs, h1.grown hg hne, h2, fun s hs => ⟨(h3 s hs).1.grown hg hne, (h3 s hs).2⟩⟩
theorem SegsOwn.below {w w' : World} {base : Nat} {v : Value} {l : List (Int × List Nat)} (h : SegsOwn w base v l) (hb : Below w.heap.size w w') : SegsOwn w' base v l := by
  obtain ⟨segs, h1, h2, h3⟩ := h.c
  exact ⟨segs, h1.below hb (Nat.le_refl _), h2, fun s hs => ⟨(h3 s hs).1.below hb (Nat.le_refl _), (h3 s hs).2⟩⟩
theorem OwnL.slice {α : Type} {w : World} {base : Nat} {e : TypeId} {C : Nat} {F : α → List Value} {A : Option Addr} {c : Nat} {xs : List α} (hF : ∀ a, (F a).length = C) (h : OwnL w base e C F (.slice A xs.length c) xs) : Rd w A C (xs.map F) ∧ xs.length ≤ c ∧ c ≤ maxLen := by
  obtain ⟨A2, c2, hv, h1, h2, h3⟩ := h.rd hF
  cases hv
  exact ⟨h1, h2, h3⟩
theorem SegsOwn.ok {w : World} {base : Nat} {v : Value} {l : List (Int × List Nat)} (h : SegsOwn w base v l) : ∃ A segs c, v = .slice A segs.length c ∧ SegsOk w A c segs ∧ segs.map Sg.c = l := by
  obtain ⟨segs, h1, h2, h3⟩ := h.c
  obtain ⟨A, c, rfl, hrd, hl, hc⟩ := h1.rd Sg.cs_len
  refine ⟨A, segs, c, rfl, ⟨hrd, fun s hs => ?_, hl, hc⟩, h2⟩
  obtain ⟨h4, h5, h6⟩ := h3 s hs
  obtain ⟨r1, r2, r3⟩ := h4.slice u1_len
  exact ⟨r1, r2, r3, h5, h6⟩
theorem infoSeg : (Tryz.prog.info? 67).map (fun i => (i.zero, i.size, i.bytes)) = some (some (.agg #[.int .i64 0, .slice none 0 0]), 2, 32) := by kernel_rfl
theorem infoU32 : (Tryz.prog.info? 22).map (fun i => (i.zero, i.size, i.bytes)) = some (some (.int .u32 0), 1, 4) := by kernel_rfl
end Go.Proofs.YtojiieghjhjoaaaGreat
set_option linter.unusedVariables false
set_option linter.unusedSimpArgs false
namespace Go.Proofs.YtojiieghjhjoaaaGreat
open Go.RowKit Go.MapKept Go.Shelf
open Go.Lib hiding intOf

/-- segments that a call made, as they lie -/
structure SegsO (w : World) (base : Nat) (v : Value) (segs : List Sg) : Prop where
  own : OwnL w base 67 2 Sg.cs v segs
  as_ : ∀ s ∈ segs, OwnL w base 22 1 u1 (.slice s.A s.as_.length s.cap) s.as_ ∧ (∀ n ∈ s.as_, n < 4294967296) ∧ -9223372036854775808 ≤ s.kind ∧ s.kind ≤ 9223372036854775807
theorem SegsO.nil (w : World) (base : Nat) : SegsO w base (.slice none 0 0) [] := ⟨OwnL.nil _ _ _ _ _, fun s h => by cases h⟩
theorem SegsO.segs {w : World} {base : Nat} {v : Value} {segs : List Sg} (h : SegsO w base v segs) : SegsOwn w base v (segs.map Sg.c) := ⟨segs, h.own, rfl, h.as_⟩
theorem SegsO.keep {w w' : World} {base : Nat} {v : Value} {segs : List Sg} (h : SegsO w base v segs) (hk : ∀ i, base ≤ i → i < w.heap.size → w'.heap[i]? = w.heap[i]?) : SegsO w' base v segs :=
  ⟨OwnM.keep h.own (fun k e => hk k (OwnM.lt h.own k e).1 (OwnM.lt h.own k e).2), fun s hs => ⟨OwnM.keep (h.as_ s hs).1 (fun k e => hk k (OwnM.lt (h.as_ s hs).1 k e).1 (OwnM.lt (h.as_ s hs).1 k e).2), (h.as_ s hs).2⟩⟩
/-- nothing below g has turned but the block rb -/
structure Kp (V w : World) (rb g : Nat) : Prop where
  k : ∀ i, i < g → i ≠ rb → w.heap[i]? = V.heap[i]?
  s : g < w.heap.size
theorem Kp.grown {V w w' : World} {rb g : Nat} {row : Option Nat} (h : Kp V w rb g) (hg : w.grownBy w' row) (hr : ∀ k, row = some k → k = rb ∨ g ≤ k) : Kp V w' rb g :=
  ⟨fun i hi hn => (hg.block i (Nat.lt_trans hi h.s) (fun e => by
    rcases hr i e.symm with h1 | h1
    · exact hn h1
    · omega)).trans (h.k i hi hn), Nat.lt_of_lt_of_le h.s hg.size⟩
theorem Kp.below {V w w' : World} {rb g : Nat} (h : Kp V w rb g) (hg : Below w.heap.size w w') : Kp V w' rb g :=
  ⟨fun i hi hn => (hg.block i (Nat.lt_trans hi h.s)).trans (h.k i hi hn), Nat.lt_of_lt_of_le h.s hg.size⟩
theorem CellsAt.unfrz {w : World} {b : Nat} {cs : Array Value} {T : TypeId} (h : CellsAt w b cs T) (i : Nat) : w.frozen? ⟨b, i, none⟩ = false := by
  have h2 : w.heap[b]? = some (.cells cs T (0, 0)) := h
  simp only [World.frozen?, h2]
  exact Bool.and_eq_false_iff.2 (.inr (by simp))
theorem own_ne {w : World} {b b' : Nat} {e e' : TypeId} {s s' n n' : Nat} {v v' : Value} {xs xs' : List Value} (h : OwnM w b e s v n xs) (h' : OwnM w b' e' s' v' n' xs') (he : e ≠ e') : ∀ k, v.ownBlock = some k → some k ≠ v'.ownBlock := fun k hk hk' => by
  rcases h.2 with ⟨rfl, _⟩ | ⟨g, cap, cur, fr, rfl, _, hg, _⟩
  · simp [Value.ownBlock] at hk
  · rcases h'.2 with ⟨rfl, _⟩ | ⟨g', cap', cur', fr', rfl, _, hg', _⟩
    · simp [Value.ownBlock] at hk'
    · simp [Value.ownBlock] at hk hk'
      subst hk
      subst hk'
      rw [hg] at hg'
      injection hg' with hq
      injection hq with _ hq2
      exact he hq2
end Go.Proofs.YtojiieghjhjoaaaGreat
