/-
  Several texts in one.
-/
import Derived.Test.YtkcojblflebomaaGreatNR10
import Derived.Test.YtkcojblflebomaaGreatNR13
set_option linter.unusedVariables false
set_option linter.unusedSimpArgs false
namespace Go.Proofs.YtkcojblflebomaaGreat
open Go.RowKit Go.MapKept Go.Shelf
open Go.Lib hiding intOf

def x1 (n : Nat) : List Value := [.int .u64 n]
theorem x1_len (n : Nat) : (x1 n).length = 1 := rfl
theorem Lg.cs_len (x : Lg) : x.cs.length = 3 := rfl
/-- attributes whose lists a call made -/
structure AtO (w : World) (base : Nat) (a : Atr) : Prop where
  path : SegsO w base (.slice a.pA a.segs.length a.pC) a.segs
  comms : OwnL w base 35 1 u1 (.slice a.mA a.comms.length a.mC) a.comms
  exts : OwnL w base 57 1 x1 (.slice a.xA a.exts.length a.xC) a.exts
  larges : OwnL w base 59 3 Lg.cs (.slice a.lA a.larges.length a.lC) a.larges
  clus : OwnL w base 35 1 u1 (.slice a.kA a.clus.length a.kC) a.clus
  next : a.next.size ≤ 9223372036854775807
  mfit : ∀ n ∈ a.comms, n < 4294967296
  xfit : ∀ n ∈ a.exts, n < 18446744073709551616
  lfit : ∀ x ∈ a.larges, x.g < 4294967296 ∧ x.a < 4294967296 ∧ x.b < 4294967296
  kfit : ∀ n ∈ a.clus, n < 4294967296
  ofit : -9223372036854775808 ≤ a.origin ∧ a.origin ≤ 9223372036854775807
  nfit : a.med < 4294967296 ∧ a.pref < 4294967296 ∧ a.aggAs < 4294967296 ∧ a.aggId < 4294967296 ∧ a.orig < 4294967296
theorem OwnL.keep {α : Type} {w w' : World} {base : Nat} {e : TypeId} {C : Nat} {F : α → List Value} {v : Value} {xs : List α} (h : OwnL w base e C F v xs) (hk : ∀ i, base ≤ i → i < w.heap.size → w'.heap[i]? = w.heap[i]?) : OwnL w' base e C F v xs :=
  OwnM.keep h (fun k e => hk k (OwnM.lt h k e).1 (OwnM.lt h k e).2)
theorem AtO.keep {w w' : World} {base : Nat} {a : Atr} (h : AtO w base a) (hk : ∀ i, base ≤ i → i < w.heap.size → w'.heap[i]? = w.heap[i]?) : AtO w' base a :=
  ⟨h.path.keep hk, h.comms.keep hk, h.exts.keep hk, h.larges.keep hk, h.clus.keep hk, h.next, h.mfit, h.xfit, h.lfit, h.kfit, h.ofit, h.nfit⟩
theorem AtO.below {w w' : World} {base : Nat} {a : Atr} (h : AtO w base a) (hb : Below w.heap.size w w') : AtO w' base a := h.keep (fun i _ hi => hb.block i hi)
theorem SegsO.ok {w : World} {base : Nat} {A : Option Addr} {c : Nat} {segs : List Sg} (h : SegsO w base (.slice A segs.length c) segs) : SegsOk w A c segs := by
  obtain ⟨r1, r2, r3⟩ := h.own.slice Sg.cs_len
  exact ⟨r1, fun s hs => by
    obtain ⟨q1, q2, q3⟩ := h.as_ s hs
    obtain ⟨p1, p2, p3⟩ := q1.slice u1_len
    exact ⟨p1, p2, p3, q2, q3⟩, r2, r3⟩
theorem AtO.ok {w : World} {base : Nat} {a : Atr} (h : AtO w base a) : AtrOk w a := by
  have hp := h.path.ok
  obtain ⟨m1, m2, m3⟩ := h.comms.slice u1_len
  obtain ⟨e1, e2, e3⟩ := h.exts.slice x1_len
  obtain ⟨l1, l2, l3⟩ := h.larges.slice Lg.cs_len
  obtain ⟨k1, k2, k3⟩ := h.clus.slice u1_len
  exact ⟨hp.rd, hp.segs, hp.len, hp.cap, h.next, m1, m2, m3, h.mfit, e1, e2, e3, h.xfit, l1, l2, l3, h.lfit, k1, k2, k3, h.kfit, h.ofit, h.nfit⟩
def noAtr : Atr := ⟨0, none, [], 0, ⟨#[]⟩, false, 0, false, 0, false, 0, 0, none, [], 0, none, [], 0, none, [], 0, false, 0, none, [], 0⟩
theorem noAtr_own (w : World) (base : Nat) : AtO w base noAtr :=
  ⟨SegsO.nil _ _, OwnL.nil _ _ _ _ _, OwnL.nil _ _ _ _ _, OwnL.nil _ _ _ _ _, OwnL.nil _ _ _ _ _, by decide, (fun n hn => by cases hn), (fun n hn => by cases hn), (fun n hn => by cases hn), (fun n hn => by cases hn), by decide, by decide⟩
/-- no clusters: a list that is nil -/
def Kn (a : Atr) : Prop := a.clus = [] → a.kA = none ∧ a.kC = 0
theorem noAtr_kn : Kn noAtr := fun _ => ⟨rfl, rfl⟩
/-- attributes in their variable -/
structure AtVar (w : World) (b : Nat) (c : AtC) : Prop where
  x : ∃ a : Atr, CellsAt w b a.ar 40 ∧ AtO w (b + 1) a ∧ a.c = c ∧ Kn a
theorem AtVar.below {w w' : World} {b : Nat} {c : AtC} (h : AtVar w b c) (hb : Below w.heap.size w w') : AtVar w' b c := by
  obtain ⟨a, h1, h2, h3⟩ := h.x
  exact ⟨a, h1.below hb h1.lt, h2.below hb, h3⟩
theorem CellsAt.setAt {w : World} {b : Nat} {cs : Array Value} {T : TypeId} (h : CellsAt w b cs T) (i : Nat) (u : Value) : CellsAt (w.setCell ⟨b, i, none⟩ u) b (cs.setIfInBounds i u) T := by
  have h2 : w.heap[b]? = some (.cells cs T (0, 0)) := h
  unfold CellsAt
  rw [setCell_eq_setRow w b i _ _ _ _ h2]
  exact setRow_heap w b _ _ _ _ h2
theorem AtO.setc {w : World} {b i : Nat} {u : Value} {a : Atr} (h : AtO w (b + 1) a) : AtO (w.setCell ⟨b, i, none⟩ u) (b + 1) a := h.keep (fun k h1 _ => Below.heap_setCell w _ _ k (by show k ≠ b; omega))
theorem below_set (w : World) (b i : Nat) (u : Value) : Below b w (w.setCell ⟨b, i, none⟩ u) := Below.setCell (p := ⟨b, i, none⟩) (Below.refl b w) (Nat.le_refl b) u
/-- nothing that was there has turned but block b, and lists of numbers of 32 bits from b on -/
structure Tk (w w' : World) (b : Nat) : Prop where
  below : Below b w w'
  k : ∀ i, i < w.heap.size → i ≠ b → (∀ cur fr, w.heap[i]? ≠ some (.cells cur 35 fr)) → w'.heap[i]? = w.heap[i]?
theorem Tk.refl (w : World) (b : Nat) : Tk w w b := ⟨Below.refl _ _, fun _ _ _ _ => rfl⟩
theorem Tk.of_grown {w w' : World} {b : Nat} (hg : w.grownBy w' (some b)) (hb : b < w.heap.size) : Tk w w' b :=
  ⟨⟨hg.os, hg.tape, hg.output, hg.size, fun i hi => hg.block i (Nat.lt_trans hi hb) (fun e => by injection e with e; omega)⟩, fun i h1 h2 _ => hg.block i h1 (fun e => h2 (by injection e))⟩
theorem Tk.set {w : World} {b i : Nat} (u : Value) (hb : b < w.heap.size) : Tk w (w.setCell ⟨b, i, none⟩ u) b := Tk.of_grown (grown_setCell w ⟨b, i, none⟩ u) hb
theorem Tk.below_set {w w1 : World} {b i : Nat} (u : Value) (h : Below w.heap.size w w1) (hb : b < w.heap.size) : Tk w (w1.setCell ⟨b, i, none⟩ u) b :=
  Tk.of_grown (grown_trans (grown_of_below h _) (grown_setCell w1 ⟨b, i, none⟩ u)) hb
theorem Tk.cells {w w' : World} {b g : Nat} {cs : Array Value} {T : TypeId} (h : Tk w w' b) (hc : CellsAt w g cs T) (hg : g ≠ b) (hT : T ≠ 35) : CellsAt w' g cs T :=
  (h.k g hc.lt hg (fun cur fr e => by
    have h2 : w.heap[g]? = some (.cells cs T (0, 0)) := hc
    rw [h2] at e
    injection e with e
    injection e with _ e2
    exact hT e2)).trans hc
/-- what a value does to attributes; is it one? -/
def take1 (v : ByteArray) (c : AtC) : AtC × Bool := if v.size = 1 ∧ hd v 1 ≤ 2 then ({ c with origin := (hd v 1 : Nat) }, true) else (c, false)
def take2 (v : ByteArray) (four : Bool) (c : AtC) : AtC × Bool := match decP four v with
  | none => ({ c with path := [] }, false)
  | some l => ({ c with path := l }, true)
def take3 (v : ByteArray) (c : AtC) : AtC × Bool := ({ c with next := v }, v.size == 4)
/-- a function takes a value so -/
def Takes (f : FuncId) (t : ByteArray → Bool → AtC → AtC × Bool) : Prop :=
  ∀ (b : Nat) (c : AtC) (v : ByteArray) (four : Bool) (w : World), AtVar w b c → (v.size : Int) ≤ 140737488351232 → Calls Tryz.prog f #[.pointer (some ⟨b, 0, none⟩), .string v, .bool four] w fun e w' => e = .returned (.bool (t v four c).2) ∧ AtVar w' b (t v four c).1 ∧ Tk w w' b
/-- the same where there are no clusters yet -/
def Takes0 (f : FuncId) (t : ByteArray → Bool → AtC → AtC × Bool) : Prop :=
  ∀ (b : Nat) (c : AtC) (v : ByteArray) (four : Bool) (w : World), c.clus = [] → AtVar w b c → (v.size : Int) ≤ 140737488351232 → Calls Tryz.prog f #[.pointer (some ⟨b, 0, none⟩), .string v, .bool four] w fun e w' => e = .returned (.bool (t v four c).2) ∧ AtVar w' b (t v four c).1 ∧ Tk w w' b
/-- what takes a type: the clusters' own only where there are none yet, the others leave them -/
def TakesT (T : Nat → ByteArray → Bool → AtC → AtC × Bool) (n : Nat) (f : FuncId) : Prop :=
  if n = 10 then Takes0 f (T n) else Takes f (T n) ∧ ∀ v four c, (T n v four c).1.clus = c.clus
theorem hd_first {v : ByteArray} (h : v.size = 1) (h0 : 0 < v.size) : hd v 1 = v[0].toNat := by
  have e : v.data.toList.take 1 = [v[0]] := by
    have hl : v.data.toList.length = 1 := by rw [Array.length_toList]; exact h
    rw [List.take_of_length_le (by omega)]
    apply List.ext_getElem
    · simp [hl]
    · intro i h1 h2
      have : i = 0 := by simp at h2; omega
      subst this
      rfl
  unfold hd
  rw [e]
  simp [beVal]
set_option maxHeartbeats 8000000 in
theorem takes1 : Takes 73 (fun v _ c => take1 v c) := by
  intro b c v four w h hm
  obtain ⟨a, hc, ho, hac⟩ := h.x
  have HH := Lib.hid h
  have HC := Lib.hid hc
  have HO := Lib.hid ho
  have HAC := Lib.hid hac
  have cf := hc.unfrozen 0
  obtain ⟨c0, c1, c2, c3, c4, c5, c6, c7, c8, c9, c10, c11, c12, c13, c14, c15⟩ := atr_cells hc
  have hlt := hc.lt
  clear hc ho hac h c1 c2 c3 c4 c5 c6 c7 c8 c9 c10 c11 c12 c13 c14 c15
  by_cases h1 : v.size = 1
  · have h0 : 0 < v.size := by omega
    have HD := Lib.hid (hd_first h1 h0)
    have z1 : ((v.size : Int) != 1) = false := by simp; omega
    by_cases h2 : v[0].toNat ≤ 2
    · have HT : Hid (take1 v c = ({ c with origin := (hd v 1 : Nat) }, true)) := by show _ = _; unfold take1; rw [if_pos ⟨h1, by rw [HD.out]; exact h2⟩]
      have h2' : ¬ 2 < (v[0].toNat : Int) := by omega
      have h00 : 0 < (v.size : Int) := by omega
      clear h1 h2
      go_enter Tryz.func73, Tryz.ntmps73
      go_wp2_with fail
      go_ret
      refine ⟨by rw [HT.out]; rfl, ?_, Tk.set _ hlt⟩
      rw [HT.out]
      exact ⟨⟨{ a with origin := (v[0].toNat : Nat) }, HC.out.setAt 0 _, { HO.out.setc with ofit := by show (-9223372036854775808 : Int) ≤ (v[0].toNat : Nat) ∧ ((v[0].toNat : Nat) : Int) ≤ 9223372036854775807; have := v[0].toNat_lt; omega }, ⟨by rw [← HAC.out.1, HD.out]; rfl, HAC.out.2⟩⟩⟩
    · have HT : Hid (take1 v c = (c, false)) := by show _ = _; unfold take1; rw [if_neg (fun e => h2 (by rw [← HD.out]; exact e.2))]
      have h2' : 2 < (v[0].toNat : Int) := by omega
      have h00 : 0 < (v.size : Int) := by omega
      clear h1 h2
      go_enter Tryz.func73, Tryz.ntmps73
      go_wp2_with fail
      go_ret
      exact ⟨by rw [HT.out]; rfl, by rw [HT.out]; exact HH.out, Tk.refl _ _⟩
  · have HT : Hid (take1 v c = (c, false)) := by show _ = _; unfold take1; rw [if_neg (fun e => h1 e.1)]
    have z1 : ((v.size : Int) != 1) = true := bne_iff_ne.2 (by omega)
    clear h1
    go_enter Tryz.func73, Tryz.ntmps73
    go_wp2_with fail
    go_ret
    exact ⟨by rw [HT.out]; rfl, by rw [HT.out]; exact HH.out, Tk.refl _ _⟩
set_option maxHeartbeats 8000000 in
theorem takes2 : Takes 74 take2 := by
  intro b c v four w h hm
  have HDEC := Lib.hid (decode_any v four w hm)
  obtain ⟨a, hc, ho, hac⟩ := h.x
  have HC := Lib.hid hc
  have HO := Lib.hid ho
  have HAC := Lib.hid hac
  have hlt := hc.lt
  have HT : Hid (take2 v four c = match decP four v with
    | none => ({ c with path := [] }, false)
    | some l => ({ c with path := l }, true)) := rfl
  clear hc ho hac h
  generalize take2 v four c = res at HT ⊢
  go_enter Tryz.func74, Tryz.ntmps74
  go_wp2_with fail
  refine HDEC.out.mono ?_
  rintro e w1 ⟨hpost, hb⟩
  have HC1 : Hid (CellsAt w1 b a.ar 40) := HC.out.below hb hlt
  have HO1 : Hid (AtO w1 (b + 1) a) := HO.out.below hb
  have HB1 := Lib.hid hb
  have c1 := (atr_cells HC1.out).2.1
  have cf := HC1.out.unfrozen 1
  clear hb
  cases hd : decP four v with
  | none =>
    rw [hd] at hpost HT
    obtain rfl : e = .returned (.tuple #[.slice none 0 0, .int .i64 4]) := hpost
    go_wp2_with fail
    go_ret
    refine ⟨by rw [HT.out]; rfl, ?_, Tk.below_set _ HB1.out hlt⟩
    rw [HT.out]
    exact ⟨⟨{ a with pA := none, segs := [], pC := 0 }, HC1.out.setAt 1 _, { HO1.out.setc with path := SegsO.nil _ _ }, ⟨by rw [← HAC.out.1]; rfl, HAC.out.2⟩⟩⟩
  | some l =>
    rw [hd] at hpost HT
    obtain ⟨pv, rfl, hso⟩ := hpost
    obtain ⟨segs, q1, q2, q3⟩ := hso.c
    obtain ⟨A, cc, rfl⟩ := q1.form
    have HSG : Hid (SegsO w1 (b + 1) (.slice A segs.length cc) segs) := ⟨OwnM.lower q1 (by omega), fun s hs => ⟨OwnM.lower (q3 s hs).1 (by omega), (q3 s hs).2⟩⟩
    have HSC := Lib.hid q2
    clear hso q1 q2 q3 hd
    go_wp2_with fail
    go_ret
    refine ⟨by rw [HT.out]; rfl, ?_, Tk.below_set _ HB1.out hlt⟩
    rw [HT.out]
    exact ⟨⟨{ a with pA := A, segs := segs, pC := cc }, HC1.out.setAt 1 _, { HO1.out.setc with path := HSG.out.keep (fun k h1 _ => Below.heap_setCell w1 _ _ k (by show k ≠ b; omega)) }, ⟨by rw [← HAC.out.1, ← HSC.out]; rfl, HAC.out.2⟩⟩⟩
set_option maxHeartbeats 8000000 in
theorem takes3 : Takes 76 (fun v _ c => take3 v c) := by
  intro b c v four w h hm
  obtain ⟨a, hc, ho, hac⟩ := h.x
  have HC := Lib.hid hc
  have HO := Lib.hid ho
  have HAC := Lib.hid hac
  have cf := hc.unfrozen 2
  have c2 := (atr_cells hc).2.2.1
  have hlt := hc.lt
  have z : ((v.size : Int) == 4) = (v.size == 4) := by rw [Bool.eq_iff_iff]; simp; omega
  clear hc ho hac h
  generalize hq : (v.size == 4) = q at z
  have HQ : Hid ((take3 v c).2 = q) := hq
  clear hq
  go_enter Tryz.func76, Tryz.ntmps76
  go_wp2_with fail
  go_ret
  refine ⟨by rw [HQ.out]; rfl, ⟨{ a with next := v }, HC.out.setAt 2 _, { HO.out.setc with next := by show v.size ≤ 9223372036854775807; omega }, ⟨by rw [← HAC.out.1]; rfl, HAC.out.2⟩⟩, Tk.set _ hlt⟩
end Go.Proofs.YtkcojblflebomaaGreat
