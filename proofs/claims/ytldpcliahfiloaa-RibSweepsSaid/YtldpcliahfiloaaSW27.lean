/-
  Several texts in one.
-/
import Derived.Test.YtldpcliahfiloaaSW25
import Derived.Test.YtldpcliahfiloaaSW26
import Derived.Laws.EntriesVeiled
set_option linter.unusedVariables false
set_option linter.unusedSimpArgs false
namespace Go.Proofs.Ytldpcliahfiloaa
open Go.RowKit Go.MapKept Go.Shelf
open Go.Lib hiding intOf

def x1 (n : Nat) : List Value := [.int .u64 n]
theorem x1_len (n : Nat) : (x1 n).length = 1 := rfl
theorem Lg.cs_len (x : Lg) : x.cs.length = 3 := rfl
/-- attributes whose lists a call made -/
structure AtO (w : World) (base : Nat) (a : Atr) : Prop where
  path : SegsO w base (.slice a.pA a.segs.length a.pC) a.segs
  comms : OwnL w base 30 1 u1 (.slice a.mA a.comms.length a.mC) a.comms
  exts : OwnL w base 23 1 x1 (.slice a.xA a.exts.length a.xC) a.exts
  larges : OwnL w base 82 3 Lg.cs (.slice a.lA a.larges.length a.lC) a.larges
  clus : OwnL w base 30 1 u1 (.slice a.kA a.clus.length a.kC) a.clus
  next : a.next.size ≤ 9223372036854775807
  mfit : ∀ n ∈ a.comms, n < 4294967296
  xfit : ∀ n ∈ a.exts, n < 18446744073709551616
  lfit : ∀ x ∈ a.larges, x.g < 4294967296 ∧ x.a < 4294967296 ∧ x.b < 4294967296
  kfit : ∀ n ∈ a.clus, n < 4294967296
  ofit : -9223372036854775808 ≤ a.origin ∧ a.origin ≤ 9223372036854775807
  nfit : a.med < 4294967296 ∧ a.pref < 4294967296 ∧ a.aggAs < 4294967296 ∧ a.aggId < 4294967296 ∧ a.orig < 4294967296
theorem OwnL.keep {α : Type} {w w' : World} {base : Nat} {e : TypeId} {C : Nat} {F : α → List Value} {v : Value} {xs : List α} (h : OwnL w base e C F v xs) (hk : ∀ i, base ≤ i → i < w.heap.size → w'.heap[i]? = w.heap[i]?) : OwnL w' base e C F v xs :=
  OwnM.keep h (fun k e => hk k (OwnM.lt h k e).1 (OwnM.lt h k e).2)
theorem AtO.keep {w w' : World} {base : Nat} {a : Atr} (h : AtO w base a) (hk : ∀ i, base ≤ i → i < w.heap.size → w'.heap[i]? = w.heap[i]?) : AtO w' base a :=
  ⟨h.path.keep hk, h.comms.keep hk, h.exts.keep hk, h.larges.keep hk, h.clus.keep hk, h.next, h.mfit, h.xfit, h.lfit, h.kfit, h.ofit, h.nfit⟩
theorem AtO.below {w w' : World} {base : Nat} {a : Atr} (h : AtO w base a) (hb : Below w.heap.size w w') : AtO w' base a := h.keep (fun i _ hi => hb.block i hi)
theorem SegsO.ok {w : World} {base : Nat} {A : Option Addr} {c : Nat} {segs : List Sg} (h : SegsO w base (.slice A segs.length c) segs) : SegsOk w A c segs := by
  obtain ⟨r1, r2, r3⟩ := h.own.slice Sg.cs_len
  exact ⟨r1, fun s hs => by
    obtain ⟨q1, q2, q3⟩ := h.as_ s hs
    obtain ⟨p1, p2, p3⟩ := q1.slice u1_len
    exact ⟨p1, p2, p3, q2, q3⟩, r2, r3⟩
theorem AtO.ok {w : World} {base : Nat} {a : Atr} (h : AtO w base a) : AtrOk w a := by
  have hp := h.path.ok
  obtain ⟨m1, m2, m3⟩ := h.comms.slice u1_len
  obtain ⟨e1, e2, e3⟩ := h.exts.slice x1_len
  obtain ⟨l1, l2, l3⟩ := h.larges.slice Lg.cs_len
  obtain ⟨k1, k2, k3⟩ := h.clus.slice u1_len
  exact ⟨hp.rd, hp.segs, hp.len, hp.cap, h.next, m1, m2, m3, h.mfit, e1, e2, e3, h.xfit, l1, l2, l3, h.lfit, k1, k2, k3, h.kfit, h.ofit, h.nfit⟩
def noAtr : Atr := ⟨0, none, [], 0, ⟨#[]⟩, false, 0, false, 0, false, 0, 0, none, [], 0, none, [], 0, none, [], 0, false, 0, none, [], 0⟩
theorem noAtr_own (w : World) (base : Nat) : AtO w base noAtr :=
  ⟨SegsO.nil _ _, OwnL.nil _ _ _ _ _, OwnL.nil _ _ _ _ _, OwnL.nil _ _ _ _ _, OwnL.nil _ _ _ _ _, by decide, (fun n hn => by cases hn), (fun n hn => by cases hn), (fun n hn => by cases hn), (fun n hn => by cases hn), by decide, by decide⟩
/-- no clusters: a list that is nil -/
def Kn (a : Atr) : Prop := a.clus = [] → a.kA = none ∧ a.kC = 0
/-- attributes in their variable -/
structure AtVar (w : World) (b : Nat) (c : AtC) : Prop where
  x : ∃ a : Atr, CellsAt w b a.ar 41 ∧ AtO w (b + 1) a ∧ a.c = c ∧ Kn a
theorem AtVar.below {w w' : World} {b : Nat} {c : AtC} (h : AtVar w b c) (hb : Below w.heap.size w w') : AtVar w' b c := by
  obtain ⟨a, h1, h2, h3⟩ := h.x
  exact ⟨a, h1.below hb h1.lt, h2.below hb, h3⟩
theorem CellsAt.setAt {w : World} {b : Nat} {cs : Array Value} {T : TypeId} (h : CellsAt w b cs T) (i : Nat) (u : Value) : CellsAt (w.setCell ⟨b, i, none⟩ u) b (cs.setIfInBounds i u) T := by
  have h2 : w.heap[b]? = some (.cells cs T (0, 0)) := h
  unfold CellsAt
  rw [setCell_eq_setRow w b i _ _ _ _ h2]
  exact setRow_heap w b _ _ _ _ h2
/-- nothing that was there has turned but block b, and lists of numbers of 32 bits from b on -/
structure Tk (w w' : World) (b : Nat) : Prop where
  below : Below b w w'
  k : ∀ i, i < w.heap.size → i ≠ b → (∀ cur fr, w.heap[i]? ≠ some (.cells cur 30 fr)) → w'.heap[i]? = w.heap[i]?
theorem Tk.refl (w : World) (b : Nat) : Tk w w b := ⟨Below.refl _ _, fun _ _ _ _ => rfl⟩
theorem Tk.of_grown {w w' : World} {b : Nat} (hg : w.grownBy w' (some b)) (hb : b < w.heap.size) : Tk w w' b :=
  ⟨⟨hg.os, hg.tape, hg.output, hg.size, fun i hi => hg.block i (Nat.lt_trans hi hb) (fun e => by injection e with e; omega)⟩, fun i h1 h2 _ => hg.block i h1 (fun e => h2 (by injection e))⟩
theorem Tk.set {w : World} {b i : Nat} (u : Value) (hb : b < w.heap.size) : Tk w (w.setCell ⟨b, i, none⟩ u) b := Tk.of_grown (grown_setCell w ⟨b, i, none⟩ u) hb
theorem Tk.cells {w w' : World} {b g : Nat} {cs : Array Value} {T : TypeId} (h : Tk w w' b) (hc : CellsAt w g cs T) (hg : g ≠ b) (hT : T ≠ 30) : CellsAt w' g cs T :=
  (h.k g hc.lt hg (fun cur fr e => by
    have h2 : w.heap[g]? = some (.cells cs T (0, 0)) := hc
    rw [h2] at e
    injection e with e
    injection e with _ e2
    exact hT e2)).trans hc
end Go.Proofs.Ytldpcliahfiloaa
