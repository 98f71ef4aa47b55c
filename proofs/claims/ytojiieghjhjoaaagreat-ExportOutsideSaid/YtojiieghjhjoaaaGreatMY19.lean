/-
  Several texts in one.
-/
import Derived.Test.YtojiieghjhjoaaaGreatMY15
import Derived.Test.YtojiieghjhjoaaaGreatMY18
import Derived.OrdersHeld
set_option linter.unusedVariables false
set_option linter.unusedSimpArgs false
namespace Go.Proofs.YtojiieghjhjoaaaGreat
open Go.RowKit Go.MapKept Go.Shelf
open Go.Lib hiding intOf

/-- a cell of a list of one's own stored over -/
theorem OwnM.setIn {w : World} {base n C g cap j : Nat} {e : TypeId} {xs : List Value} (h : OwnM w base e C (.slice (some ⟨g, 0, none⟩) n cap) n xs) (u : Value) (hj : j < n * C) : OwnM (w.setCell ⟨g, j, none⟩ u) base e C (.slice (some ⟨g, 0, none⟩) n cap) n (xs.set j u) := by
  refine ⟨by rw [List.length_set]; exact h.1, ?_⟩
  rcases h.2 with ⟨h1, _⟩ | ⟨g2, cap2, cur, fr, hv, hb, hg, hf, hn, hm, hs, ht⟩
  · cases h1
  · injection hv with e1 e2 e3
    injection e1 with e1
    injection e1 with e1 _ _
    subst e1
    subst e3
    refine .inr ⟨g, cap, cur.setIfInBounds j u, fr, rfl, hb, ?_, ?_, hn, hm, by rw [Array.size_setIfInBounds]; exact hs, ?_⟩
    · rw [setCell_eq_setRow w g j _ _ _ _ hg]
      exact setRow_heap w g _ _ _ _ hg
    · rw [Array.size_setIfInBounds]
      exact hf
    · rw [Array.toList_setIfInBounds, List.take_set, ht]
theorem flat_set {α : Type} {F : α → List Value} {C : Nat} (hF : ∀ a, (F a).length = C) : ∀ (xs : List α) (i : Nat) (x : α) (j : Nat) (u : Value) (y : α), xs[i]? = some x → j < C → F y = (F x).set j u → (xs.set i y).flatMap F = (xs.flatMap F).set (i * C + j) u
  | [], i, x, j, u, y, h, _, _ => by simp at h
  | a :: r, 0, x, j, u, y, h, hj, hy => by
    simp only [List.getElem?_cons_zero, Option.some.injEq] at h
    subst h
    rw [List.set_cons_zero, List.flatMap_cons, List.flatMap_cons, hy, Nat.zero_mul, Nat.zero_add, List.set_append_left _ _ (by rw [hF]; exact hj)]
  | a :: r, i + 1, x, j, u, y, h, hj, hy => by
    rw [List.getElem?_cons_succ] at h
    rw [List.set_cons_succ, List.flatMap_cons, List.flatMap_cons, flat_set hF r i x j u y h hj hy, List.set_append_right _ _ (by rw [hF, Nat.succ_mul]; omega), hF]
    congr 2
    rw [Nat.succ_mul]
    omega
/-- a path that is cloned segment by segment -/
structure CpP (w : World) (base : Nat) (A : Option Addr) (n c : Nat) (orig segs : List Sg) (k : Nat) : Prop where
  len : segs.length = n
  own : OwnL w base 67 2 Sg.cs (.slice A n c) segs
  con : segs.map Sg.c = orig.map Sg.c
  done : ∀ j s, j < k → segs[j]? = some s → OwnL w base 22 1 u1 (.slice s.A s.as_.length s.cap) s.as_
  left : ∀ j, k ≤ j → segs[j]? = orig[j]?
theorem CpP.keep {w w' : World} {base : Nat} {A : Option Addr} {n c k : Nat} {orig segs : List Sg} (h : CpP w base A n c orig segs k) (hk : ∀ i, base ≤ i → i < w.heap.size → w'.heap[i]? = w.heap[i]?) : CpP w' base A n c orig segs k :=
  ⟨h.len, h.own.keep hk, h.con, fun j s h1 h2 => (h.done j s h1 h2).keep hk, h.left⟩
theorem CpP.step {w : World} {base : Nat} {g n c k : Nat} {orig segs : List Sg} (h : CpP w base (some ⟨g, 0, none⟩) n c orig segs k) {s : Sg} (hs : segs[k]? = some s) (hk : k < n) (A2 : Option Addr) (c2 : Nat) (ho : OwnL w base 22 1 u1 (.slice A2 s.as_.length c2) s.as_) :
    CpP (w.setCell ⟨g, k * 2 + 1, none⟩ (.slice A2 s.as_.length c2)) base (some ⟨g, 0, none⟩) n c orig (segs.set k ⟨s.kind, A2, s.as_, c2⟩) (k + 1) := by
  have hne : ∀ (t : TypeId) (C : Nat) (v : Value) (m : Nat) (xs : List Value), OwnM w base t C v m xs → 67 ≠ t → OwnM (w.setCell ⟨g, k * 2 + 1, none⟩ (.slice A2 s.as_.length c2)) base t C v m xs := fun t C v m xs hx hT =>
    OwnM.setCell hx (p := ⟨g, k * 2 + 1, none⟩) (fun q hq e => own_ne hx h.own (fun e => hT e.symm) q hq (by rw [e]; rfl)) _
  refine ⟨by rw [List.length_set]; exact h.len, ?_, ?_, fun j x h1 h2 => ?_, fun j h1 => ?_⟩
  · unfold OwnL
    rw [List.length_set, h.len, flat_set Sg.cs_len segs k s 1 (.slice A2 s.as_.length c2) _ hs (by decide) rfl]
    have h2 := h.own
    unfold OwnL at h2
    rw [h.len] at h2
    exact OwnM.setIn h2 _ (by omega)
  · rw [List.map_set, ← h.con]
    apply List.ext_getElem?
    intro j
    rw [List.getElem?_set]
    split
    · rename_i e
      subst e
      rw [List.getElem?_map, hs]
      have : k < (segs.map Sg.c).length := by rw [List.length_map, h.len]; exact hk
      simp
      exact ⟨by rw [h.len]; exact hk, rfl⟩
    · rfl
  · rw [List.getElem?_set] at h2
    split at h2
    · split at h2
      · cases h2
        exact hne _ _ _ _ _ ho (by decide)
      · cases h2
    · rename_i e
      exact hne _ _ _ _ _ (h.done j x (by omega) h2) (by decide)
  · rw [List.getElem?_set_ne (by omega)]
    exact h.left j (by omega)
end Go.Proofs.YtojiieghjhjoaaaGreat
set_option linter.unusedVariables false
set_option linter.unusedSimpArgs false
namespace Go.Proofs.YtojiieghjhjoaaaGreat
open Go.RowKit Go.MapKept Go.Shelf
open Go.Lib hiding intOf

/-- where a list lies that may be stored over -/
structure Spot (w : World) (base top : Nat) (A : Option Addr) (m : Nat) (T : TypeId) : Prop where
  x : 0 < m → ∃ g, A = some ⟨g, 0, none⟩ ∧ base ≤ g ∧ g < top ∧ w.there g 0 m ∧ ∃ cur fr, w.heap[g]? = some (.cells cur T fr)
theorem cells_setCell {w : World} {g b i : Nat} {u : Value} {T : TypeId} (h : ∃ cur fr, w.heap[g]? = some (.cells cur T fr)) : ∃ cur fr, (w.setCell ⟨b, i, none⟩ u).heap[g]? = some (.cells cur T fr) := by
  obtain ⟨cur, fr, hg⟩ := h
  by_cases e : g = b
  · subst e
    exact ⟨_, fr, by rw [setCell_eq_setRow w g i _ _ _ _ hg]; exact setRow_heap w g _ _ _ _ hg⟩
  · exact ⟨cur, fr, (Below.heap_setCell w ⟨b, i, none⟩ u g e).trans hg⟩
theorem Spot.setCell {w : World} {base top m b i : Nat} {A : Option Addr} {T : TypeId} {u : Value} (h : Spot w base top A m T) : Spot (w.setCell ⟨b, i, none⟩ u) base top A m T := ⟨fun hp => by
  obtain ⟨g, h1, h2, h3, h4, h5⟩ := h.x hp
  exact ⟨g, h1, h2, h3, World.there_setCells h4 b i [u], cells_setCell h5⟩⟩
theorem cells_setCells {g b : Nat} {T : TypeId} : ∀ (vs : List Value) (i : Nat) (w : World), (∃ cur fr, w.heap[g]? = some (.cells cur T fr)) → ∃ cur fr, (w.setCells b i vs).heap[g]? = some (.cells cur T fr)
  | [], _, _, h => h
  | v :: r, i, w, h => cells_setCells r (i + 1) _ (cells_setCell h)
theorem Spot.setCells {w : World} {base top m b i : Nat} {A : Option Addr} {T : TypeId} {vs : List Value} (h : Spot w base top A m T) : Spot (w.setCells b i vs) base top A m T := ⟨fun hp => by
  obtain ⟨g, h1, h2, h3, h4, h5⟩ := h.x hp
  exact ⟨g, h1, h2, h3, World.there_setCells h4 b i vs, cells_setCells vs i w h5⟩⟩
theorem Spot.at_ {w : World} {base top n C k : Nat} {A : Option Addr} {T : TypeId} (h : Spot w base top A (n * C) T) (hC : 0 < C) (hk : k < n) : ∃ g, A = some ⟨g, 0, none⟩ ∧ base ≤ g ∧ g < top ∧ w.there g (k * C) C ∧ ∃ cur fr, w.heap[g]? = some (.cells cur T fr) := by
  obtain ⟨g, h1, h2, h3, h4, h5⟩ := h.x (Nat.mul_pos (by omega) hC)
  exact ⟨g, h1, h2, h3, there_part h4 hk, h5⟩
/-- what spoil has in hand -/
structure SpA (w0 w : World) (base : Nat) (a : Atr) : Prop where
  box : CellsAt w w0.heap.size a.ar 33
  bel : Below base w0 w
  p : Spot w base w0.heap.size a.pA (a.segs.length * 2) 67
  as_ : ∀ s ∈ a.segs, Spot w base w0.heap.size s.A (s.as_.length * 1) 22
  m : Spot w base w0.heap.size a.mA (a.comms.length * 1) 22
  x : Spot w base w0.heap.size a.xA (a.exts.length * 1) 25
  l : Spot w base w0.heap.size a.lA (a.larges.length * 3) 81
  k : Spot w base w0.heap.size a.kA (a.clus.length * 1) 22
theorem SpA.setCell {w0 w : World} {base g i : Nat} {a : Atr} {u : Value} (h : SpA w0 w base a) (h1 : base ≤ g) (h2 : g < w0.heap.size) : SpA w0 (w.setCell ⟨g, i, none⟩ u) base a :=
  ⟨(Below.heap_setCell w ⟨g, i, none⟩ u _ (by show w0.heap.size ≠ g; omega)).trans h.box, h.bel.setCell h1 _, h.p.setCell, fun s hs => (h.as_ s hs).setCell, h.m.setCell, h.x.setCell, h.l.setCell, h.k.setCell⟩
theorem SpA.setCells {w0 w : World} {base g i : Nat} {a : Atr} {vs : List Value} (h : SpA w0 w base a) (h1 : base ≤ g) (h2 : g < w0.heap.size) (hb : base ≤ w.heap.size) : SpA w0 (w.setCells g i vs) base a :=
  ⟨((grown_setCells g vs i w).block _ h.box.lt (fun e => by injection e with e; omega)).trans h.box, h.bel.grown (grown_setCells g vs i w) hb (fun q hq => by cases hq; exact h1), h.p.setCells, fun s hs => (h.as_ s hs).setCells, h.m.setCells, h.x.setCells, h.l.setCells, h.k.setCells⟩
end Go.Proofs.YtojiieghjhjoaaaGreat
