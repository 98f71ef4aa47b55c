/-
  Several texts in one.
-/
import Derived.Test.YtojiieghjhjoaaaGreatKN6
import Derived.Test.YtojiieghjhjoaaaGreatKN9
import Derived.Test.YtojiieghjhjoaaaGreatKN12
import Derived.Deep.MidRow
import Derived.Laws.EntriesVeiled
set_option linter.unusedVariables false
set_option linter.unusedSimpArgs false
namespace Go.Proofs.YtojiieghjhjoaaaGreat
open Go.RowKit Go.MapKept Go.Shelf
open Go.Lib hiding intOf

theorem attrs_size : (Tryz.prog.info? 33).map (·.size) = some 16 := by kernel_rfl
theorem attrs_under : ∃ fs, Tryz.prog.underlying 33 = some (.struct fs) := ⟨_, Tryz.underlying33⟩
theorem CellsAt.range {w : World} {b : Nat} {T : TypeId} {cs : Array Value} (h : CellsAt w b cs T) : w.rangeAt b 0 cs.toList := fun j v hv => by
  rw [Nat.zero_add, h.c j]
  simpa using hv
theorem wpList_load_attrs {ops : Array Oper} {rest : List Oper} {op : Oper} {a : Act} {w : World} {Q : Exit → Act → World → Prop} (hgd : op.guard = none) (src : Operand) (ho : op.op = .load 33 src) (b : Nat) (hx : a.eval src = .pointer (some ⟨b, 0, none⟩)) (p : Atr) (hc : CellsAt w b p.ar 33)
    (h : wpList Tryz.prog ops Q rest (a.put op.dst p.v) w) : wpList Tryz.prog ops Q (op :: rest) a w := by
  obtain ⟨fs, hu⟩ := attrs_under
  exact wpList_load_mid hgd 33 src ho b 0 hx p.ar.toList _ hc.range hu rfl (by rw [attrs_size]; rfl) h
def optR (is : Bool) (f t : UInt8) (v : ByteArray) : List Rw := if is = true then [⟨f, t, v⟩] else []
theorem CellsAt.unfrozen {w : World} {b : Nat} {cs : Array Value} {T : TypeId} (h : CellsAt w b cs T) (i : Nat) : w.frozen? ⟨b, i, none⟩ = false := by
  have h2 : w.heap[b]? = some (.cells cs T (0, 0)) := h
  simp only [World.frozen?, h2]
  exact Bool.and_eq_false_iff.2 (.inr (by simp))
end Go.Proofs.YtojiieghjhjoaaaGreat
set_option linter.unusedVariables false
set_option linter.unusedSimpArgs false
namespace Go.Proofs.YtojiieghjhjoaaaGreat
open Go.RowKit Go.MapKept Go.Shelf
open Go.Lib hiding intOf

def x1 (n : Nat) : List Value := [.int .u64 n]
theorem x1_len (n : Nat) : (x1 n).length = 1 := rfl
theorem Lg.cs_len (x : Lg) : x.cs.length = 3 := rfl
/-- attributes whose lists a call made -/
structure AtO (w : World) (base : Nat) (a : Atr) : Prop where
  path : SegsO w base (.slice a.pA a.segs.length a.pC) a.segs
  comms : OwnL w base 22 1 u1 (.slice a.mA a.comms.length a.mC) a.comms
  exts : OwnL w base 25 1 x1 (.slice a.xA a.exts.length a.xC) a.exts
  larges : OwnL w base 81 3 Lg.cs (.slice a.lA a.larges.length a.lC) a.larges
  clus : OwnL w base 22 1 u1 (.slice a.kA a.clus.length a.kC) a.clus
  next : a.next.size ≤ 9223372036854775807
  mfit : ∀ n ∈ a.comms, n < 4294967296
  xfit : ∀ n ∈ a.exts, n < 18446744073709551616
  lfit : ∀ x ∈ a.larges, x.g < 4294967296 ∧ x.a < 4294967296 ∧ x.b < 4294967296
  kfit : ∀ n ∈ a.clus, n < 4294967296
  ofit : -9223372036854775808 ≤ a.origin ∧ a.origin ≤ 9223372036854775807
  nfit : a.med < 4294967296 ∧ a.pref < 4294967296 ∧ a.aggAs < 4294967296 ∧ a.aggId < 4294967296 ∧ a.orig < 4294967296
theorem OwnL.keep {α : Type} {w w' : World} {base : Nat} {e : TypeId} {C : Nat} {F : α → List Value} {v : Value} {xs : List α} (h : OwnL w base e C F v xs) (hk : ∀ i, base ≤ i → i < w.heap.size → w'.heap[i]? = w.heap[i]?) : OwnL w' base e C F v xs :=
  OwnM.keep h (fun k e => hk k (OwnM.lt h k e).1 (OwnM.lt h k e).2)
theorem AtO.keep {w w' : World} {base : Nat} {a : Atr} (h : AtO w base a) (hk : ∀ i, base ≤ i → i < w.heap.size → w'.heap[i]? = w.heap[i]?) : AtO w' base a :=
  ⟨h.path.keep hk, h.comms.keep hk, h.exts.keep hk, h.larges.keep hk, h.clus.keep hk, h.next, h.mfit, h.xfit, h.lfit, h.kfit, h.ofit, h.nfit⟩
theorem AtO.below {w w' : World} {base : Nat} {a : Atr} (h : AtO w base a) (hb : Below w.heap.size w w') : AtO w' base a := h.keep (fun i _ hi => hb.block i hi)
theorem SegsO.ok {w : World} {base : Nat} {A : Option Addr} {c : Nat} {segs : List Sg} (h : SegsO w base (.slice A segs.length c) segs) : SegsOk w A c segs := by
  obtain ⟨r1, r2, r3⟩ := h.own.slice Sg.cs_len
  exact ⟨r1, fun s hs => by
    obtain ⟨q1, q2, q3⟩ := h.as_ s hs
    obtain ⟨p1, p2, p3⟩ := q1.slice u1_len
    exact ⟨p1, p2, p3, q2, q3⟩, r2, r3⟩
theorem AtO.ok {w : World} {base : Nat} {a : Atr} (h : AtO w base a) : AtrOk w a := by
  have hp := h.path.ok
  obtain ⟨m1, m2, m3⟩ := h.comms.slice u1_len
  obtain ⟨e1, e2, e3⟩ := h.exts.slice x1_len
  obtain ⟨l1, l2, l3⟩ := h.larges.slice Lg.cs_len
  obtain ⟨k1, k2, k3⟩ := h.clus.slice u1_len
  exact ⟨hp.rd, hp.segs, hp.len, hp.cap, h.next, m1, m2, m3, h.mfit, e1, e2, e3, h.xfit, l1, l2, l3, h.lfit, k1, k2, k3, h.kfit, h.ofit, h.nfit⟩
def noAtr : Atr := ⟨0, none, [], 0, ⟨#[]⟩, false, 0, false, 0, false, 0, 0, none, [], 0, none, [], 0, none, [], 0, false, 0, none, [], 0⟩
theorem noAtr_own (w : World) (base : Nat) : AtO w base noAtr :=
  ⟨SegsO.nil _ _, OwnL.nil _ _ _ _ _, OwnL.nil _ _ _ _ _, OwnL.nil _ _ _ _ _, OwnL.nil _ _ _ _ _, by decide, (fun n hn => by cases hn), (fun n hn => by cases hn), (fun n hn => by cases hn), (fun n hn => by cases hn), by decide, by decide⟩
/-- no clusters: a list that is nil -/
def Kn (a : Atr) : Prop := a.clus = [] → a.kA = none ∧ a.kC = 0
/-- attributes in their variable -/
structure AtVar (w : World) (b : Nat) (c : AtC) : Prop where
  x : ∃ a : Atr, CellsAt w b a.ar 33 ∧ AtO w (b + 1) a ∧ a.c = c ∧ Kn a
theorem AtVar.below {w w' : World} {b : Nat} {c : AtC} (h : AtVar w b c) (hb : Below w.heap.size w w') : AtVar w' b c := by
  obtain ⟨a, h1, h2, h3⟩ := h.x
  exact ⟨a, h1.below hb h1.lt, h2.below hb, h3⟩
theorem CellsAt.setAt {w : World} {b : Nat} {cs : Array Value} {T : TypeId} (h : CellsAt w b cs T) (i : Nat) (u : Value) : CellsAt (w.setCell ⟨b, i, none⟩ u) b (cs.setIfInBounds i u) T := by
  have h2 : w.heap[b]? = some (.cells cs T (0, 0)) := h
  unfold CellsAt
  rw [setCell_eq_setRow w b i _ _ _ _ h2]
  exact setRow_heap w b _ _ _ _ h2
/-- nothing that was there has turned but block b, and lists of numbers of 32 bits from b on -/
structure Tk (w w' : World) (b : Nat) : Prop where
  below : Below b w w'
  k : ∀ i, i < w.heap.size → i ≠ b → (∀ cur fr, w.heap[i]? ≠ some (.cells cur 22 fr)) → w'.heap[i]? = w.heap[i]?
theorem Tk.refl (w : World) (b : Nat) : Tk w w b := ⟨Below.refl _ _, fun _ _ _ _ => rfl⟩
theorem Tk.of_grown {w w' : World} {b : Nat} (hg : w.grownBy w' (some b)) (hb : b < w.heap.size) : Tk w w' b :=
  ⟨⟨hg.os, hg.tape, hg.output, hg.size, fun i hi => hg.block i (Nat.lt_trans hi hb) (fun e => by injection e with e; omega)⟩, fun i h1 h2 _ => hg.block i h1 (fun e => h2 (by injection e))⟩
theorem Tk.set {w : World} {b i : Nat} (u : Value) (hb : b < w.heap.size) : Tk w (w.setCell ⟨b, i, none⟩ u) b := Tk.of_grown (grown_setCell w ⟨b, i, none⟩ u) hb
theorem Tk.cells {w w' : World} {b g : Nat} {cs : Array Value} {T : TypeId} (h : Tk w w' b) (hc : CellsAt w g cs T) (hg : g ≠ b) (hT : T ≠ 22) : CellsAt w' g cs T :=
  (h.k g hc.lt hg (fun cur fr e => by
    have h2 : w.heap[g]? = some (.cells cs T (0, 0)) := hc
    rw [h2] at e
    injection e with e
    injection e with _ e2
    exact hT e2)).trans hc
end Go.Proofs.YtojiieghjhjoaaaGreat
set_option linter.unusedVariables false
set_option linter.unusedSimpArgs false
namespace Go.Proofs.YtojiieghjhjoaaaGreat
open Go.RowKit Go.MapKept Go.Shelf
open Go.Lib hiding intOf

theorem Rd.src {α : Type} {F : α → List Value} {C : Nat} {P : Program} {t e : TypeId} {w : World} {A : Option Addr} {xs : List α} {c : Nat} (ht : P.underlying t = some (.slice e)) (hC : 0 < C) (hF : ∀ a, (F a).length = C) (h1 : ∀ a, ∀ u ∈ F a, u.oneCell' = true) (h : Rd w A C (xs.map F)) :
    Src P w t C (.slice A xs.length c) xs.length (xs.flatMap F) := by
  have hone : ∀ u ∈ xs.flatMap F, u.oneCell' = true := fun u hu => by
    obtain ⟨a, _, h2⟩ := List.mem_flatMap.1 hu
    exact h1 a u h2
  rcases xs with _ | ⟨x0, r⟩
  · cases A with
    | none => exact Src.nil ht
    | some a => exact Src.slice ht (by simp) (fun j u hu => by cases hu) hone
  · generalize hxs : x0 :: r = xs at *
    have hpos : 0 < (xs.map F).length := by rw [← hxs]; simp
    obtain ⟨b, off, rfl, hb, hc⟩ := h hpos
    refine Src.slice ht (flat_len hF xs) (fun j u hu => ?_) hone
    have hj := (List.getElem?_eq_some_iff.1 hu).1
    rw [flat_len hF xs] at hj
    have hdm := Nat.div_add_mod j C
    have hlt : j / C < xs.length := Nat.div_lt_of_lt_mul (by rw [Nat.mul_comm]; exact hj)
    have hx : xs[j / C]? = some xs[j / C] := List.getElem?_eq_getElem hlt
    have hm : j % C < (F xs[j / C]).length := by rw [hF]; exact Nat.mod_lt _ hC
    have h2 := flat_at hF xs (j / C) _ (j % C) _ hx (List.getElem?_eq_getElem hm)
    rw [show j / C * C + j % C = j by rw [Nat.mul_comm]; exact hdm, hu] at h2
    have h3 := hc (j / C) (F xs[j / C]) (by rw [List.getElem?_map, hx]; rfl) (j % C) _ (List.getElem?_eq_getElem hm)
    rw [add_off, show off + j = off + j / C * C + j % C by rw [Nat.add_assoc, Nat.mul_comm (j / C) C, hdm], h3, Option.some.inj h2]
section
variable {ops : Array Oper} {rest : List Oper} {op : Oper} {a : Act} {Q : Exit → Act → World → Prop}
end
theorem Rw.ones (r : Rw) : ∀ u ∈ r.cs, u.oneCell' = true := by
  intro u hu
  simp only [Rw.cs, List.mem_cons, List.not_mem_nil, or_false] at hu
  rcases hu with rfl | rfl | rfl <;> rfl
theorem u1_ones (n : Nat) : ∀ u ∈ u1 n, u.oneCell' = true := by
  intro u hu
  simp only [u1, List.mem_cons, List.not_mem_nil, or_false] at hu
  rw [hu]
  rfl
theorem x1_ones (n : Nat) : ∀ u ∈ x1 n, u.oneCell' = true := by
  intro u hu
  simp only [x1, List.mem_cons, List.not_mem_nil, or_false] at hu
  rw [hu]
  rfl
theorem Lg.ones (x : Lg) : ∀ u ∈ x.cs, u.oneCell' = true := by
  intro u hu
  simp only [Lg.cs, List.mem_cons, List.not_mem_nil, or_false] at hu
  rcases hu with rfl | rfl | rfl <;> rfl
theorem Sg.ones (x : Sg) : ∀ u ∈ x.cs, u.oneCell' = true := by
  intro u hu
  simp only [Sg.cs, List.mem_cons, List.not_mem_nil, or_false] at hu
  rcases hu with rfl | rfl <;> rfl
theorem infoU64 : (Tryz.prog.info? 25).map (fun i => (i.zero, i.size, i.bytes)) = some (some (.int .u64 0), 1, 8) := by kernel_rfl
theorem infoLg : (Tryz.prog.info? 81).map (fun i => (i.zero, i.size, i.bytes)) = some (some (.agg #[.int .u32 0, .int .u32 0, .int .u32 0]), 3, 12) := by kernel_rfl
section
variable {ops : Array Oper} {rest : List Oper} {op : Oper} {a : Act} {Q : Exit → Act → World → Prop} {W : World}
end
end Go.Proofs.YtojiieghjhjoaaaGreat
