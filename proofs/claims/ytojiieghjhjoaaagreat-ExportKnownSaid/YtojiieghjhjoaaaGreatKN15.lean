/-
  Several texts in one.
-/
import Derived.Test.YtojiieghjhjoaaaGreatKN13
import Derived.Test.YtojiieghjhjoaaaGreatKN7
import Derived.StillTailTactics
import Derived.Deep.DeepCutAuto
import Derived.Laws.EntriesVeiled
import Derived.Deep.MidRow
import Derived.Test.YtojiieghjhjoaaaGreatKN14
import Derived.OrdersHeld
set_option linter.unusedVariables false
set_option linter.unusedSimpArgs false
namespace Go.Proofs.YtojiieghjhjoaaaGreat
open Go.RowKit Go.MapKept Go.Shelf
open Go.Lib hiding intOf

theorem grown_row (w : World) (b : Nat) (ds : Array Value) : w.grownBy (w.setRow b ds) (some b) :=
  ⟨rfl, rfl, rfl, by rw [setRow_size]; exact Nat.le_refl _, fun i h1 h2 => setRow_other w b i ds (fun e => h2 (by rw [e]))⟩
theorem take_snoc {α : Type} {l : List α} {k : Nat} {x : α} (h : l[k]? = some x) : l.take (k + 1) = l.take k ++ [x] := by
  rw [List.take_add_one, h]
  rfl
end Go.Proofs.YtojiieghjhjoaaaGreat
set_option linter.unusedVariables false
set_option linter.unusedSimpArgs false
namespace Go.Proofs.YtojiieghjhjoaaaGreat
open Go.RowKit Go.MapKept Go.Shelf
open Go.Lib hiding intOf

def wordsB (l : List Nat) : List UInt8 := l.flatMap fun n => beB n 4 4
def aggB (four : Bool) (n : Nat) : List UInt8 := if four = true then beB n 4 4 else if n ≤ 65535 then beB n 2 2 else beB 23456 2 2
def W1 (c : AtC) (four : Bool) : List Rw := optR true 64 1 (bts (beB c.origin.toNat 1 1)) ++ optR true 64 2 (bts (pathB four c.path)) ++ optR (c.next.size == 4) 64 3 c.next
def W2 (c : AtC) : List Rw := optR c.hasMed 128 4 (bts (beB c.med 4 4)) ++ optR c.hasPref 64 5 (bts (beB c.pref 4 4)) ++ optR c.atomic 64 6 (bts [])
def W3 (c : AtC) (four : Bool) : List Rw := optR (decide (0 < c.aggAs)) 192 7 (bts (aggB four c.aggAs ++ beB c.aggId 4 4)) ++ optR (decide (0 < c.comms.length)) 192 8 (bts (wordsB c.comms)) ++ optR c.hasOrig 128 9 (bts (beB c.orig 4 4))
end Go.Proofs.YtojiieghjhjoaaaGreat
set_option linter.unusedVariables false
set_option linter.unusedSimpArgs false
namespace Go.Proofs.YtojiieghjhjoaaaGreat
open Go.RowKit Go.MapKept Go.Shelf
open Go.Lib hiding intOf

/-- a verdict -/
structure Vd where
  act : Int
  code : Nat
  sub : Nat
def Vd.ar (v : Vd) : Array Value := #[.int .i64 v.act, .int .u8 v.code, .int .u8 v.sub]
theorem OwnL.off {α : Type} {w w' : World} {base g : Nat} {e T : TypeId} {C : Nat} {F : α → List Value} {v : Value} {xs : List α} {cs : Array Value} (h : OwnL w base e C F v xs) (hg : w.grownBy w' (some g)) (hc : CellsAt w g cs T) (he : e ≠ T) : OwnL w' base e C F v xs :=
  OwnM.keep h (fun k hk => hg.block k (OwnM.lt h k hk).2 (fun e1 => by
    injection e1 with e1
    subst e1
    rcases h.2 with ⟨rfl, _⟩ | ⟨q, cap, cur, fr, rfl, _, hq, _⟩
    · simp [Value.ownBlock] at hk
    · simp [Value.ownBlock] at hk
      subst hk
      have h2 : w.heap[q]? = some (.cells cs T (0, 0)) := hc
      rw [hq] at h2
      injection h2 with h2
      injection h2 with _ h3
      exact he h3))
theorem SegsO.off {w w' : World} {base g : Nat} {T : TypeId} {v : Value} {segs : List Sg} {cs : Array Value} (h : SegsO w base v segs) (hg : w.grownBy w' (some g)) (hc : CellsAt w g cs T) (h1 : 67 ≠ T) (h2 : 22 ≠ T) : SegsO w' base v segs :=
  ⟨h.own.off hg hc h1, fun s hs => ⟨(h.as_ s hs).1.off hg hc h2, (h.as_ s hs).2⟩⟩
/-- where another variable turns, attributes stay -/
theorem AtVar.off {w w' : World} {b g : Nat} {c : AtC} {T : TypeId} {cs : Array Value} (h : AtVar w b c) (hg : w.grownBy w' (some g)) (hc : CellsAt w g cs T) (hb : b ≠ g) (h1 : 67 ≠ T) (h2 : 22 ≠ T) (h3 : 25 ≠ T) (h4 : 81 ≠ T) : AtVar w' b c := by
  obtain ⟨a, q1, q2, q3⟩ := h.x
  exact ⟨a, q1.row hg hb, { q2 with path := q2.path.off hg hc h1 h2, comms := q2.comms.off hg hc h2, exts := q2.exts.off hg hc h3, larges := q2.larges.off hg hc h4, clus := q2.clus.off hg hc h2 }, q3⟩
end Go.Proofs.YtojiieghjhjoaaaGreat
set_option linter.unusedVariables false
set_option linter.unusedSimpArgs false
namespace Go.Proofs.YtojiieghjhjoaaaGreat
open Go.RowKit Go.MapKept Go.Shelf
open Go.Lib hiding intOf

theorem attrs_ones (p : Atr) : p.ar.all Value.oneCell' = true := Array.all_eq_true_iff_forall_mem.2 (fun u hu => by
  simp only [Atr.ar, List.mem_toArray, List.mem_cons, List.not_mem_nil, or_false] at hu
  rcases hu with rfl | rfl | rfl | rfl | rfl | rfl | rfl | rfl | rfl | rfl | rfl | rfl | rfl | rfl | rfl | rfl <;> rfl)
theorem wpList_store_attrs {ops : Array Oper} {rest : List Oper} {op : Oper} {a : Act} {w : World} {Q : Exit → Act → World → Prop} (hgd : op.guard = none) (x y : Operand) (ho : op.op = .store 33 x y) (b : Nat) (hx : a.eval x = .pointer (some ⟨b, 0, none⟩)) (p : Atr) (hy : a.eval y = .agg p.ar) (q : Atr) (hc : CellsAt w b q.ar 33)
    (h : wpList Tryz.prog ops Q rest (a.put op.dst undef) (w.setRow b p.ar)) : wpList Tryz.prog ops Q (op :: rest) a w :=
  wpList_store_row hgd 33 x y ho b p.ar hx hy 33 q.ar hc (by rw [attrs_size]; rfl) rfl (attrs_ones p) h
theorem CellsAt.setRow' {w : World} {b : Nat} {cs : Array Value} {T : TypeId} (h : CellsAt w b cs T) (ds : Array Value) : CellsAt (w.setRow b ds) b ds T := setRow_heap w b _ _ _ _ h
theorem grown_setRow' (w : World) (b : Nat) (ds : Array Value) : w.grownBy (w.setRow b ds) (some b) :=
  ⟨rfl, rfl, rfl, by rw [setRow_size]; exact Nat.le_refl _, fun i h1 h2 => setRow_other w b i ds (fun e => h2 (by rw [e]))⟩
theorem results_attrs {fn : Func} {p : Tmp} (h : fn.results = #[.cell p 33]) (tmps : Array Value) (w : World) (g : Nat) (x : Atr) (hp : tmps.getD p undef = .pointer (some ⟨g, 0, none⟩)) (hg : CellsAt w g x.ar 33) :
    (results fn tmps).run Tryz.prog w = .ok x.v w := by
  obtain ⟨fs, hu⟩ := attrs_under
  exact results_cell_row h tmps w g 33 x.ar (0, 0) _ hp hg hu rfl (by rw [attrs_size]; rfl)
theorem rd_none (w : World) (C : Nat) : Rd w none C [] := fun h => absurd h (by simp)
end Go.Proofs.YtojiieghjhjoaaaGreat
set_option linter.unusedVariables false
set_option linter.unusedSimpArgs false
namespace Go.Proofs.YtojiieghjhjoaaaGreat
open Go.RowKit Go.MapKept Go.Shelf
open Go.Lib hiding intOf

theorem AtO.lower' {w : World} {b b' : Nat} {a : Atr} (h : AtO w b a) (hb : b' ≤ b) : AtO w b' a :=
  { h with path := ⟨OwnM.lower h.path.own hb, fun s hs => ⟨OwnM.lower (h.path.as_ s hs).1 hb, (h.path.as_ s hs).2⟩⟩, comms := OwnM.lower h.comms hb, exts := OwnM.lower h.exts hb, larges := OwnM.lower h.larges hb, clus := OwnM.lower h.clus hb }
end Go.Proofs.YtojiieghjhjoaaaGreat
set_option linter.unusedVariables false
set_option linter.unusedSimpArgs false
namespace Go.Proofs.YtojiieghjhjoaaaGreat
open Go.RowKit Go.MapKept Go.Shelf
open Go.Lib hiding intOf

/-- a cell of a list of one's own stored over -/
theorem OwnM.setIn {w : World} {base n C g cap j : Nat} {e : TypeId} {xs : List Value} (h : OwnM w base e C (.slice (some ⟨g, 0, none⟩) n cap) n xs) (u : Value) (hj : j < n * C) : OwnM (w.setCell ⟨g, j, none⟩ u) base e C (.slice (some ⟨g, 0, none⟩) n cap) n (xs.set j u) := by
  refine ⟨by rw [List.length_set]; exact h.1, ?_⟩
  rcases h.2 with ⟨h1, _⟩ | ⟨g2, cap2, cur, fr, hv, hb, hg, hf, hn, hm, hs, ht⟩
  · cases h1
  · injection hv with e1 e2 e3
    injection e1 with e1
    injection e1 with e1 _ _
    subst e1
    subst e3
    refine .inr ⟨g, cap, cur.setIfInBounds j u, fr, rfl, hb, ?_, ?_, hn, hm, by rw [Array.size_setIfInBounds]; exact hs, ?_⟩
    · rw [setCell_eq_setRow w g j _ _ _ _ hg]
      exact setRow_heap w g _ _ _ _ hg
    · rw [Array.size_setIfInBounds]
      exact hf
    · rw [Array.toList_setIfInBounds, List.take_set, ht]
theorem flat_set {α : Type} {F : α → List Value} {C : Nat} (hF : ∀ a, (F a).length = C) : ∀ (xs : List α) (i : Nat) (x : α) (j : Nat) (u : Value) (y : α), xs[i]? = some x → j < C → F y = (F x).set j u → (xs.set i y).flatMap F = (xs.flatMap F).set (i * C + j) u
  | [], i, x, j, u, y, h, _, _ => by simp at h
  | a :: r, 0, x, j, u, y, h, hj, hy => by
    simp only [List.getElem?_cons_zero, Option.some.injEq] at h
    subst h
    rw [List.set_cons_zero, List.flatMap_cons, List.flatMap_cons, hy, Nat.zero_mul, Nat.zero_add, List.set_append_left _ _ (by rw [hF]; exact hj)]
  | a :: r, i + 1, x, j, u, y, h, hj, hy => by
    rw [List.getElem?_cons_succ] at h
    rw [List.set_cons_succ, List.flatMap_cons, List.flatMap_cons, flat_set hF r i x j u y h hj hy, List.set_append_right _ _ (by rw [hF, Nat.succ_mul]; omega), hF]
    congr 2
    rw [Nat.succ_mul]
    omega
/-- a path that is cloned segment by segment -/
structure CpP (w : World) (base : Nat) (A : Option Addr) (n c : Nat) (orig segs : List Sg) (k : Nat) : Prop where
  len : segs.length = n
  own : OwnL w base 67 2 Sg.cs (.slice A n c) segs
  con : segs.map Sg.c = orig.map Sg.c
  done : ∀ j s, j < k → segs[j]? = some s → OwnL w base 22 1 u1 (.slice s.A s.as_.length s.cap) s.as_
  left : ∀ j, k ≤ j → segs[j]? = orig[j]?
theorem CpP.keep {w w' : World} {base : Nat} {A : Option Addr} {n c k : Nat} {orig segs : List Sg} (h : CpP w base A n c orig segs k) (hk : ∀ i, base ≤ i → i < w.heap.size → w'.heap[i]? = w.heap[i]?) : CpP w' base A n c orig segs k :=
  ⟨h.len, h.own.keep hk, h.con, fun j s h1 h2 => (h.done j s h1 h2).keep hk, h.left⟩
theorem CpP.step {w : World} {base : Nat} {g n c k : Nat} {orig segs : List Sg} (h : CpP w base (some ⟨g, 0, none⟩) n c orig segs k) {s : Sg} (hs : segs[k]? = some s) (hk : k < n) (A2 : Option Addr) (c2 : Nat) (ho : OwnL w base 22 1 u1 (.slice A2 s.as_.length c2) s.as_) :
    CpP (w.setCell ⟨g, k * 2 + 1, none⟩ (.slice A2 s.as_.length c2)) base (some ⟨g, 0, none⟩) n c orig (segs.set k ⟨s.kind, A2, s.as_, c2⟩) (k + 1) := by
  have hne : ∀ (t : TypeId) (C : Nat) (v : Value) (m : Nat) (xs : List Value), OwnM w base t C v m xs → 67 ≠ t → OwnM (w.setCell ⟨g, k * 2 + 1, none⟩ (.slice A2 s.as_.length c2)) base t C v m xs := fun t C v m xs hx hT =>
    OwnM.setCell hx (p := ⟨g, k * 2 + 1, none⟩) (fun q hq e => own_ne hx h.own (fun e => hT e.symm) q hq (by rw [e]; rfl)) _
  refine ⟨by rw [List.length_set]; exact h.len, ?_, ?_, fun j x h1 h2 => ?_, fun j h1 => ?_⟩
  · unfold OwnL
    rw [List.length_set, h.len, flat_set Sg.cs_len segs k s 1 (.slice A2 s.as_.length c2) _ hs (by decide) rfl]
    have h2 := h.own
    unfold OwnL at h2
    rw [h.len] at h2
    exact OwnM.setIn h2 _ (by omega)
  · rw [List.map_set, ← h.con]
    apply List.ext_getElem?
    intro j
    rw [List.getElem?_set]
    split
    · rename_i e
      subst e
      rw [List.getElem?_map, hs]
      have : k < (segs.map Sg.c).length := by rw [List.length_map, h.len]; exact hk
      simp
      exact ⟨by rw [h.len]; exact hk, rfl⟩
    · rfl
  · rw [List.getElem?_set] at h2
    split at h2
    · split at h2
      · cases h2
        exact hne _ _ _ _ _ ho (by decide)
      · cases h2
    · rename_i e
      exact hne _ _ _ _ _ (h.done j x (by omega) h2) (by decide)
  · rw [List.getElem?_set_ne (by omega)]
    exact h.left j (by omega)
end Go.Proofs.YtojiieghjhjoaaaGreat
