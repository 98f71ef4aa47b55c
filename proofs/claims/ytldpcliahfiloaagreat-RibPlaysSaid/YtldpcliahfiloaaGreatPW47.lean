/-
  Several texts in one.
-/
import Derived.Test.YtldpcliahfiloaaGreatPW21
import Derived.Test.YtldpcliahfiloaaGreatPW46
set_option linter.unusedVariables false
set_option linter.unusedSimpArgs false
namespace Go.Proofs.YtldpcliahfiloaaGreat
open Go.RowKit Go.MapKept Go.Shelf
open Go.Lib hiding intOf

/-- where a list lies that may be stored over -/
structure Spot (w : World) (base top : Nat) (A : Option Addr) (m : Nat) (T : TypeId) : Prop where
  x : 0 < m → ∃ g, A = some ⟨g, 0, none⟩ ∧ base ≤ g ∧ g < top ∧ w.there g 0 m ∧ ∃ cur fr, w.heap[g]? = some (.cells cur T fr)
theorem Spot.of_own {w : World} {base top n c C : Nat} {e : TypeId} {A : Option Addr} {xs : List Value} (h : OwnM w base e C (.slice A n c) n xs) (ht : w.heap.size ≤ top) : Spot w base top A (n * C) e := ⟨fun hp => by
  have hn : 0 < n := Nat.pos_of_ne_zero (fun e => by rw [e, Nat.zero_mul] at hp; omega)
  obtain ⟨g, cap, hv, hb, hg, _, _, hth⟩ := OwnM.there h hn
  injection hv with e1 e2 e3
  subst e1
  rcases h.2 with ⟨h1, _⟩ | ⟨g2, cap2, cur, fr, hv2, _, hg2, _⟩
  · cases h1
  · injection hv2 with f1 f2 f3
    injection f1 with f1
    injection f1 with f1 _ _
    subst f1
    exact ⟨g, rfl, hb, Nat.lt_of_lt_of_le hg ht, hth, cur, fr, hg2⟩⟩
theorem cells_setCell {w : World} {g b i : Nat} {u : Value} {T : TypeId} (h : ∃ cur fr, w.heap[g]? = some (.cells cur T fr)) : ∃ cur fr, (w.setCell ⟨b, i, none⟩ u).heap[g]? = some (.cells cur T fr) := by
  obtain ⟨cur, fr, hg⟩ := h
  by_cases e : g = b
  · subst e
    exact ⟨_, fr, by rw [setCell_eq_setRow w g i _ _ _ _ hg]; exact setRow_heap w g _ _ _ _ hg⟩
  · exact ⟨cur, fr, (Below.heap_setCell w ⟨b, i, none⟩ u g e).trans hg⟩
theorem Spot.setCell {w : World} {base top m b i : Nat} {A : Option Addr} {T : TypeId} {u : Value} (h : Spot w base top A m T) : Spot (w.setCell ⟨b, i, none⟩ u) base top A m T := ⟨fun hp => by
  obtain ⟨g, h1, h2, h3, h4, h5⟩ := h.x hp
  exact ⟨g, h1, h2, h3, World.there_setCells h4 b i [u], cells_setCell h5⟩⟩
theorem cells_setCells {g b : Nat} {T : TypeId} : ∀ (vs : List Value) (i : Nat) (w : World), (∃ cur fr, w.heap[g]? = some (.cells cur T fr)) → ∃ cur fr, (w.setCells b i vs).heap[g]? = some (.cells cur T fr)
  | [], _, _, h => h
  | v :: r, i, w, h => cells_setCells r (i + 1) _ (cells_setCell h)
theorem Spot.setCells {w : World} {base top m b i : Nat} {A : Option Addr} {T : TypeId} {vs : List Value} (h : Spot w base top A m T) : Spot (w.setCells b i vs) base top A m T := ⟨fun hp => by
  obtain ⟨g, h1, h2, h3, h4, h5⟩ := h.x hp
  exact ⟨g, h1, h2, h3, World.there_setCells h4 b i vs, cells_setCells vs i w h5⟩⟩
theorem Spot.at_ {w : World} {base top n C k : Nat} {A : Option Addr} {T : TypeId} (h : Spot w base top A (n * C) T) (hC : 0 < C) (hk : k < n) : ∃ g, A = some ⟨g, 0, none⟩ ∧ base ≤ g ∧ g < top ∧ w.there g (k * C) C ∧ ∃ cur fr, w.heap[g]? = some (.cells cur T fr) := by
  obtain ⟨g, h1, h2, h3, h4, h5⟩ := h.x (Nat.mul_pos (by omega) hC)
  exact ⟨g, h1, h2, h3, there_part h4 hk, h5⟩
theorem there_one {w : World} {g k : Nat} (h : w.there g (k * 1) 1) : ∃ v, w.cell? ⟨g, k, none⟩ = some v ∧ w.frozen? ⟨g, k, none⟩ = false := by
  have h2 := h 0 (by decide)
  rw [Nat.mul_one, Nat.add_zero] at h2
  obtain ⟨v, hv⟩ := Option.isSome_iff_exists.1 h2.1
  exact ⟨v, hv, h2.2⟩
/-- what spoil has in hand -/
structure SpA (w0 w : World) (base : Nat) (a : Atr) : Prop where
  box : CellsAt w w0.heap.size a.ar 41
  bel : Below base w0 w
  p : Spot w base w0.heap.size a.pA (a.segs.length * 2) 88
  as_ : ∀ s ∈ a.segs, Spot w base w0.heap.size s.A (s.as_.length * 1) 33
  m : Spot w base w0.heap.size a.mA (a.comms.length * 1) 33
  x : Spot w base w0.heap.size a.xA (a.exts.length * 1) 30
  l : Spot w base w0.heap.size a.lA (a.larges.length * 3) 100
  k : Spot w base w0.heap.size a.kA (a.clus.length * 1) 33
theorem SpA.setCell {w0 w : World} {base g i : Nat} {a : Atr} {u : Value} (h : SpA w0 w base a) (h1 : base ≤ g) (h2 : g < w0.heap.size) : SpA w0 (w.setCell ⟨g, i, none⟩ u) base a :=
  ⟨(Below.heap_setCell w ⟨g, i, none⟩ u _ (by show w0.heap.size ≠ g; omega)).trans h.box, h.bel.setCell h1 _, h.p.setCell, fun s hs => (h.as_ s hs).setCell, h.m.setCell, h.x.setCell, h.l.setCell, h.k.setCell⟩
theorem SpA.setCells {w0 w : World} {base g i : Nat} {a : Atr} {vs : List Value} (h : SpA w0 w base a) (h1 : base ≤ g) (h2 : g < w0.heap.size) (hb : base ≤ w.heap.size) : SpA w0 (w.setCells g i vs) base a :=
  ⟨((grown_setCells g vs i w).block _ h.box.lt (fun e => by injection e with e; omega)).trans h.box, h.bel.grown (grown_setCells g vs i w) hb (fun q hq => by cases hq; exact h1), h.p.setCells, fun s hs => (h.as_ s hs).setCells, h.m.setCells, h.x.setCells, h.l.setCells, h.k.setCells⟩
end Go.Proofs.YtldpcliahfiloaaGreat
set_option linter.unusedVariables false
set_option linter.unusedSimpArgs false
namespace Go.Proofs.YtldpcliahfiloaaGreat
open Go.RowKit Go.MapKept Go.Shelf
open Go.ChangeShapes Go.WideShapes Go.ChangeAt
open Go.Lib hiding intOf
open Go.Sort hiding Below

/-- attributes that may be stored over -/
structure SpT (w : World) (base top : Nat) (a : Atr) : Prop where
  p : Spot w base top a.pA (a.segs.length * 2) 88
  as_ : ∀ s ∈ a.segs, Spot w base top s.A (s.as_.length * 1) 33
  m : Spot w base top a.mA (a.comms.length * 1) 33
  k : Spot w base top a.kA (a.clus.length * 1) 33
  hd : ∀ j s g, a.segs[j]? = some s → a.pA = some ⟨g, 0, none⟩ → w.cell? ⟨g, j * 2 + 1, none⟩ = some (.slice s.A s.as_.length s.cap) ∨ w.cell? ⟨g, j * 2 + 1, none⟩ = some (.slice none 0 0)
theorem typ_ne {w : World} {g g' : Nat} {T T' : TypeId} (h : ∃ cur fr, w.heap[g]? = some (.cells cur T fr)) (h' : ∃ cur fr, w.heap[g']? = some (.cells cur T' fr)) (hne : T ≠ T') : g ≠ g' := fun e => by
  subst e
  obtain ⟨c1, f1, h1⟩ := h
  obtain ⟨c2, f2, h2⟩ := h'
  rw [h1] at h2
  injection h2 with h2
  injection h2 with _ h2
  exact hne h2
theorem Spot.typ {w : World} {base top m g : Nat} {A : Option Addr} {T : TypeId} (h : Spot w base top A m T) (hm : 0 < m) (hA : A = some ⟨g, 0, none⟩) : ∃ cur fr, w.heap[g]? = some (.cells cur T fr) := by
  obtain ⟨g2, h1, _, _, _, h5⟩ := h.x hm
  rw [hA] at h1
  injection h1 with h1
  injection h1 with h1 _ _
  subst h1
  exact h5
theorem SpT.segTyp {w : World} {base top j g : Nat} {a : Atr} {s : Sg} (h : SpT w base top a) (hj : a.segs[j]? = some s) (hA : a.pA = some ⟨g, 0, none⟩) : ∃ cur fr, w.heap[g]? = some (.cells cur 88 fr) :=
  h.p.typ (by have := (List.getElem?_eq_some_iff.1 hj).1; omega) hA
theorem SpT.set32 {w : World} {base top g i : Nat} {a : Atr} {u : Value} (h : SpT w base top a) (hty : ∃ cur fr, w.heap[g]? = some (.cells cur 33 fr)) : SpT (w.setCell ⟨g, i, none⟩ u) base top a :=
  ⟨h.p.setCell, fun s hs => (h.as_ s hs).setCell, h.m.setCell, h.k.setCell, fun j s g' hj hA => by
    have hne := typ_ne (h.segTyp hj hA) hty (by decide)
    rw [World.cell?_setCell_other _ _ _ _ (by intro e; injection e with e _ _; exact hne e.symm)]
    exact h.hd j s g' hj hA⟩
theorem SpT.setSeg {w : World} {base top g k : Nat} {a : Atr} (h : SpT w base top a) (hth : w.there g (k * 2) 2) : SpT (w.setCells g (k * 2) [.int .i64 0, .slice none 0 0]) base top a :=
  ⟨h.p.setCells, fun s hs => (h.as_ s hs).setCells, h.m.setCells, h.k.setCells, fun j s g' hj hA => by
    by_cases e : g' = g
    · subst e
      by_cases e2 : j = k
      · subst e2
        exact .inr (World.cell?_setCells_in g' [.int .i64 0, .slice none 0 0] (j * 2) w (fun q hq => (hth q hq).1) 1 (by decide))
      · rw [World.cell?_setCells_out g' [.int .i64 0, .slice none 0 0] (k * 2) w ⟨g', j * 2 + 1, none⟩ (fun _ _ => by
          rcases Nat.lt_or_gt_of_ne e2 with h | h
          · exact .inl (by show j * 2 + 1 < k * 2; omega)
          · exact .inr (by show k * 2 + 2 ≤ j * 2 + 1; omega))]
        exact h.hd j s g' hj hA
    · rw [World.cell?_setCells_out g [.int .i64 0, .slice none 0 0] (k * 2) w ⟨g', j * 2 + 1, none⟩ (fun h1 _ => absurd h1 e)]
      exact h.hd j s g' hj hA⟩
theorem SpT.setPath {w : World} {base top g i : Nat} {a : Atr} {vs : List Value} (h : SpT w base top a) (hty : ∃ cur fr, w.heap[g]? = some (.cells cur 64 fr)) : SpT (w.setCells g i vs) base top a :=
  ⟨h.p.setCells, fun s hs => (h.as_ s hs).setCells, h.m.setCells, h.k.setCells, fun j s g' hj hA => by
    have hne := typ_ne (h.segTyp hj hA) hty (by decide)
    rw [World.cell?_setCells_out g vs i w ⟨g', j * 2 + 1, none⟩ (fun h1 _ => absurd h1 hne)]
    exact h.hd j s g' hj hA⟩
theorem Spot.grow {w w' : World} {base top m : Nat} {A : Option Addr} {T : TypeId} (h : Spot w base top A m T) (hg : ∀ i, base ≤ i → i < top → w'.heap[i]? = w.heap[i]?) : Spot w' base top A m T := ⟨fun hp => by
  obtain ⟨g, h1, h2, h3, h4, cur, fr, h5⟩ := h.x hp
  refine ⟨g, h1, h2, h3, fun j hj => ?_, cur, fr, (hg g h2 h3).trans h5⟩
  have h6 := h4 j hj
  refine ⟨?_, ?_⟩
  · have e : w'.cell? ⟨g, 0 + j, none⟩ = w.cell? ⟨g, 0 + j, none⟩ := by unfold World.cell?; rw [hg g h2 h3]
    rw [e]
    exact h6.1
  · have h7 := h6.2
    simp only [World.frozen?] at h7 ⊢
    rw [hg g h2 h3]
    exact h7⟩
theorem SpT.grow {w w' : World} {base top : Nat} {a : Atr} (h : SpT w base top a) (hg : ∀ i, base ≤ i → i < top → w'.heap[i]? = w.heap[i]?) : SpT w' base top a :=
  ⟨h.p.grow hg, fun s hs => (h.as_ s hs).grow hg, h.m.grow hg, h.k.grow hg, fun j s g hj hA => by
    have hlt : base ≤ g ∧ g < top := by
      obtain ⟨g2, h1, h2, h3, _⟩ := h.p.x (by have := (List.getElem?_eq_some_iff.1 hj).1; omega)
      rw [hA] at h1
      injection h1 with h1
      injection h1 with h1 _ _
      subst h1
      exact ⟨h2, h3⟩
    have e : ∀ o, w'.cell? ⟨g, o, none⟩ = w.cell? ⟨g, o, none⟩ := fun o => by unfold World.cell?; rw [hg g hlt.1 hlt.2]
    rw [e]
    exact h.hd j s g hj hA⟩
theorem SpT.of_own {w : World} {base : Nat} {a : Atr} (h : AtO w base a) : SpT w base w.heap.size a := by
  have hown : OwnM w base 88 2 (.slice a.pA a.segs.length a.pC) a.segs.length (a.segs.flatMap Sg.cs) := h.path.own
  refine ⟨Spot.of_own hown (Nat.le_refl _), fun s hs => Spot.of_own (h.path.as_ s hs).1 (Nat.le_refl _), Spot.of_own h.comms (Nat.le_refl _), Spot.of_own h.clus (Nat.le_refl _), fun j s g hj hg => .inl ?_⟩
  have hjl : j < a.segs.length := (List.getElem?_eq_some_iff.1 hj).1
  obtain ⟨g2, cap, hv, hb, hgl, _, _, hcell, _⟩ := OwnM.cells hown (by omega)
  injection hv with e1 e2 e3
  rw [hg] at e1
  injection e1 with e1
  injection e1 with e1 _ _
  subst e1
  exact hcell (j * 2 + 1) _ (flat_at Sg.cs_len a.segs j s 1 (.slice s.A s.as_.length s.cap) hj rfl)
/-- what spoil has in hand, from the i-th path on -/
structure SpS (w0 w : World) (b1 t1 b2 t2 : Nat) (A : Option Addr) (L : List Td) (i : Nat) : Prop where
  bel : GrownX (fun i => (b1 ≤ i ∧ i < t1) ∨ (b2 ≤ i ∧ i < t2)) w0 w
  top1 : t1 ≤ w0.heap.size
  top2 : t2 ≤ w0.heap.size
  ats : ∀ t ∈ L, SpT w b1 t1 t.a
  sl : Spot w b2 t2 A (L.length * 29) 64
  rows : ∀ j t g, i ≤ j → L[j]? = some t → A = some ⟨g, 0, none⟩ → w.rangeAt g (j * 29) t.pa.toList
section
variable {w0 w : World} {b1 t1 b2 t2 i : Nat} {A : Option Addr} {L : List Td}
theorem SpS.lty (h : SpS w0 w b1 t1 b2 t2 A L i) {j g : Nat} {t : Td} (hj : L[j]? = some t) (hA : A = some ⟨g, 0, none⟩) : ∃ cur fr, w.heap[g]? = some (.cells cur 64 fr) :=
  h.sl.typ (by have := (List.getElem?_eq_some_iff.1 hj).1; omega) hA
theorem SpS.set32 (h : SpS w0 w b1 t1 b2 t2 A L i) {g o : Nat} {u : Value} (hty : ∃ cur fr, w.heap[g]? = some (.cells cur 33 fr)) (hx : b1 ≤ g ∧ g < t1) : SpS w0 (w.setCell ⟨g, o, none⟩ u) b1 t1 b2 t2 A L i :=
  ⟨h.bel.trans (GrownX.of_row (grown_setCell w ⟨g, o, none⟩ u) (.inl hx)), h.top1, h.top2, fun t ht => (h.ats t ht).set32 hty, h.sl.setCell, fun j t g' hij hj hA k v hv => by
    have hne := typ_ne (h.lty hj hA) hty (by decide)
    rw [World.cell?_setCell_other _ _ _ _ (by intro e; injection e with e _ _; exact hne e.symm)]
    exact h.rows j t g' hij hj hA k v hv⟩
theorem SpS.setSeg (h : SpS w0 w b1 t1 b2 t2 A L i) {g k : Nat} (hth : w.there g (k * 2) 2) (hty : ∃ cur fr, w.heap[g]? = some (.cells cur 88 fr)) (hx : b1 ≤ g ∧ g < t1) : SpS w0 (w.setCells g (k * 2) [.int .i64 0, .slice none 0 0]) b1 t1 b2 t2 A L i :=
  ⟨h.bel.trans (GrownX.of_row (grown_setCells g _ _ w) (.inl hx)), h.top1, h.top2, fun t ht => (h.ats t ht).setSeg hth, h.sl.setCells, fun j t g' hij hj hA k2 v hv => by
    have hne := typ_ne (h.lty hj hA) hty (by decide)
    rw [World.cell?_setCells_out g _ (k * 2) w ⟨g', _, none⟩ (fun h1 _ => absurd h1 hne)]
    exact h.rows j t g' hij hj hA k2 v hv⟩
theorem SpS.setPath (h : SpS w0 w b1 t1 b2 t2 A L i) {g : Nat} {vs : List Value} (hvs : vs.length = 29) (hty : ∃ cur fr, w.heap[g]? = some (.cells cur 64 fr)) (hx : b2 ≤ g ∧ g < t2) : SpS w0 (w.setCells g (i * 29) vs) b1 t1 b2 t2 A L (i + 1) :=
  ⟨h.bel.trans (GrownX.of_row (grown_setCells g _ _ w) (.inr hx)), h.top1, h.top2, fun t ht => (h.ats t ht).setPath hty, h.sl.setCells, fun j t g' hij hj hA' k v hv => by
    rw [World.cell?_setCells_out g vs (i * 29) w ⟨g', j * 29 + k, none⟩ (fun _ _ => .inr (by show i * 29 + vs.length ≤ j * 29 + k; omega))]
    exact h.rows j t g' (by omega) hj hA' k v hv⟩
theorem SpS.grow (h : SpS w0 w b1 t1 b2 t2 A L i) {w' : World} (hb : Below w.heap.size w w') : SpS w0 w' b1 t1 b2 t2 A L i :=
  ⟨h.bel.trans (GrownX.of_below hb), h.top1, h.top2, fun t ht => (h.ats t ht).grow (fun i _ hi => hb.block i (Nat.lt_of_lt_of_le hi (Nat.le_trans h.top1 h.bel.size))), h.sl.grow (fun i _ hi => hb.block i (Nat.lt_of_lt_of_le hi (Nat.le_trans h.top2 h.bel.size))), fun j t g hij hj hA k v hv => by
    have hlt : g < w.heap.size := by
      obtain ⟨g2, h1, _, h3, _⟩ := h.sl.x (by have := (List.getElem?_eq_some_iff.1 hj).1; omega)
      rw [hA] at h1
      injection h1 with h1
      injection h1 with h1 _ _
      subst h1
      exact Nat.lt_of_lt_of_le h3 (Nat.le_trans h.top2 h.bel.size)
    rw [show w'.cell? ⟨g, j * 29 + k, none⟩ = w.cell? ⟨g, j * 29 + k, none⟩ from by unfold World.cell?; rw [hb.block g hlt]]
    exact h.rows j t g hij hj hA k v hv⟩
end
theorem rows_own {w : World} {base n c : Nat} {A : Option Addr} {L : List Td} (h : OwnM w base 64 29 (.slice A n c) L.length (flatPh L)) : ∀ j t g, 0 ≤ j → L[j]? = some t → A = some ⟨g, 0, none⟩ → w.rangeAt g (j * 29) t.pa.toList := fun j t g _ hj hA k v hv => by
  have hjl : j < L.length := (List.getElem?_eq_some_iff.1 hj).1
  obtain ⟨g2, cap, hv2, _, _, _, _, hcell, _⟩ := OwnM.cells h (by omega)
  injection hv2 with e1 e2 e3
  rw [hA] at e1
  injection e1 with e1
  injection e1 with e1 _ _
  subst e1
  exact hcell (j * 29 + k) v (flat_at paF_len L j t k v hj hv)
theorem SpS.start {w : World} {base c : Nat} {A : Option Addr} {L : List Td} (h : PhsAt w base (.slice A L.length c) L) : SpS w w base w.heap.size base w.heap.size A L 0 :=
  ⟨GrownX.refl _ _, Nat.le_refl _, Nat.le_refl _, fun t ht => SpT.of_own (h.at_ t ht), Spot.of_own h.own (Nat.le_refl _), rows_own h.own⟩
theorem CellsAt.setCells' {w : World} {b g o : Nat} {cs : Array Value} {T : TypeId} {vs : List Value} (h : CellsAt w b cs T) (hne : b ≠ g) : CellsAt (w.setCells g o vs) b cs T :=
  ((grown_setCells g vs o w).block b h.lt (fun e => hne (by cases e; rfl))).trans h
section
variable {ops : Array Oper} {rest : List Oper} {op : Oper} {a : Act} {W : World} {Q : Exit → Act → World → Prop}
theorem wpList_load_attrs_at (hgd : op.guard = none) (src : Operand) (ho : op.op = .load 41 src) (b o : Nat) (hx : a.eval src = .pointer (some ⟨b, o, none⟩)) (p : Atr) (hc : W.rangeAt b o p.ar.toList)
    (h : wpList Tryz.prog ops Q rest (a.put op.dst p.v) W) : wpList Tryz.prog ops Q (op :: rest) a W := by
  obtain ⟨fs, hu⟩ := attrs_under
  exact wpList_load_mid hgd 41 src ho b o hx p.ar.toList _ hc hu rfl (by rw [attrs_size]; rfl) h
theorem wpList_store_attrs_row (hgd : op.guard = none) (x y : Operand) (ho : op.op = .store 41 x y) (b : Nat) (hx : a.eval x = .pointer (some ⟨b, 0, none⟩)) (p : Atr) (hy : a.eval y = p.v) (cs : Array Value) (hc : CellsAt W b cs 41) (hn : cs.size = 16)
    (h : wpList Tryz.prog ops Q rest (a.put op.dst undef) (W.setRow b p.ar)) : wpList Tryz.prog ops Q (op :: rest) a W :=
  wpList_store_row hgd 41 x y ho b p.ar hx hy 41 cs hc (by rw [attrs_size]; rfl) (by rw [hn]; rfl) (attrs_ones p) h
end
theorem rows_mid {w : World} {g o : Nat} {t : Td} (h : w.rangeAt g o t.pa.toList) : w.rangeAt g (o + 6) t.a.ar.toList := fun j v hv => by
  rw [Nat.add_assoc]
  refine h (6 + j) v ?_
  have e : t.pa.toList = [.int .i64 t.k.fam, .int .u64 t.k.rd, .string t.k.addr, .int .i64 t.k.len, .int .u32 (t.k.id : Nat), .int .u32 (t.label : Nat)] ++ (t.a.cs ++ [.int .i64 0, .string ⟨#[]⟩, .int .u32 0, .int .u32 0, .string ⟨#[]⟩, .string ⟨#[]⟩, .bool t.stale]) := rfl
  have hv2 : t.a.cs[j]? = some v := hv
  rw [e, List.getElem?_append_right (by simp)]
  simp only [List.length_cons, List.length_nil, Nat.zero_add, Nat.reduceAdd, Nat.add_sub_cancel_left]
  rw [List.getElem?_append_left (List.getElem?_eq_some_iff.1 hv2).1]
  exact hv2
end Go.Proofs.YtldpcliahfiloaaGreat
