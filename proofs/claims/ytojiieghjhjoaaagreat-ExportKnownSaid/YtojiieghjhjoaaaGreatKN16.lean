/-
  Several texts in one.
-/
import Derived.Test.YtojiieghjhjoaaaGreatKN15
import Derived.Test.YtojiieghjhjoaaaGreatKN11
import Derived.Test.YtojiieghjhjoaaaGreatKN10
set_option linter.unusedVariables false
set_option linter.unusedSimpArgs false
namespace Go.Proofs.YtojiieghjhjoaaaGreat
open Go.RowKit Go.MapKept Go.Shelf
open Go.Lib hiding intOf

/-- where a list lies that may be stored over -/
structure Spot (w : World) (base top : Nat) (A : Option Addr) (m : Nat) (T : TypeId) : Prop where
  x : 0 < m → ∃ g, A = some ⟨g, 0, none⟩ ∧ base ≤ g ∧ g < top ∧ w.there g 0 m ∧ ∃ cur fr, w.heap[g]? = some (.cells cur T fr)
theorem cells_setCell {w : World} {g b i : Nat} {u : Value} {T : TypeId} (h : ∃ cur fr, w.heap[g]? = some (.cells cur T fr)) : ∃ cur fr, (w.setCell ⟨b, i, none⟩ u).heap[g]? = some (.cells cur T fr) := by
  obtain ⟨cur, fr, hg⟩ := h
  by_cases e : g = b
  · subst e
    exact ⟨_, fr, by rw [setCell_eq_setRow w g i _ _ _ _ hg]; exact setRow_heap w g _ _ _ _ hg⟩
  · exact ⟨cur, fr, (Below.heap_setCell w ⟨b, i, none⟩ u g e).trans hg⟩
theorem Spot.setCell {w : World} {base top m b i : Nat} {A : Option Addr} {T : TypeId} {u : Value} (h : Spot w base top A m T) : Spot (w.setCell ⟨b, i, none⟩ u) base top A m T := ⟨fun hp => by
  obtain ⟨g, h1, h2, h3, h4, h5⟩ := h.x hp
  exact ⟨g, h1, h2, h3, World.there_setCells h4 b i [u], cells_setCell h5⟩⟩
theorem cells_setCells {g b : Nat} {T : TypeId} : ∀ (vs : List Value) (i : Nat) (w : World), (∃ cur fr, w.heap[g]? = some (.cells cur T fr)) → ∃ cur fr, (w.setCells b i vs).heap[g]? = some (.cells cur T fr)
  | [], _, _, h => h
  | v :: r, i, w, h => cells_setCells r (i + 1) _ (cells_setCell h)
theorem Spot.setCells {w : World} {base top m b i : Nat} {A : Option Addr} {T : TypeId} {vs : List Value} (h : Spot w base top A m T) : Spot (w.setCells b i vs) base top A m T := ⟨fun hp => by
  obtain ⟨g, h1, h2, h3, h4, h5⟩ := h.x hp
  exact ⟨g, h1, h2, h3, World.there_setCells h4 b i vs, cells_setCells vs i w h5⟩⟩
theorem Spot.at_ {w : World} {base top n C k : Nat} {A : Option Addr} {T : TypeId} (h : Spot w base top A (n * C) T) (hC : 0 < C) (hk : k < n) : ∃ g, A = some ⟨g, 0, none⟩ ∧ base ≤ g ∧ g < top ∧ w.there g (k * C) C ∧ ∃ cur fr, w.heap[g]? = some (.cells cur T fr) := by
  obtain ⟨g, h1, h2, h3, h4, h5⟩ := h.x (Nat.mul_pos (by omega) hC)
  exact ⟨g, h1, h2, h3, there_part h4 hk, h5⟩
/-- what spoil has in hand -/
structure SpA (w0 w : World) (base : Nat) (a : Atr) : Prop where
  box : CellsAt w w0.heap.size a.ar 33
  bel : Below base w0 w
  p : Spot w base w0.heap.size a.pA (a.segs.length * 2) 67
  as_ : ∀ s ∈ a.segs, Spot w base w0.heap.size s.A (s.as_.length * 1) 22
  m : Spot w base w0.heap.size a.mA (a.comms.length * 1) 22
  x : Spot w base w0.heap.size a.xA (a.exts.length * 1) 25
  l : Spot w base w0.heap.size a.lA (a.larges.length * 3) 81
  k : Spot w base w0.heap.size a.kA (a.clus.length * 1) 22
theorem SpA.setCell {w0 w : World} {base g i : Nat} {a : Atr} {u : Value} (h : SpA w0 w base a) (h1 : base ≤ g) (h2 : g < w0.heap.size) : SpA w0 (w.setCell ⟨g, i, none⟩ u) base a :=
  ⟨(Below.heap_setCell w ⟨g, i, none⟩ u _ (by show w0.heap.size ≠ g; omega)).trans h.box, h.bel.setCell h1 _, h.p.setCell, fun s hs => (h.as_ s hs).setCell, h.m.setCell, h.x.setCell, h.l.setCell, h.k.setCell⟩
theorem SpA.setCells {w0 w : World} {base g i : Nat} {a : Atr} {vs : List Value} (h : SpA w0 w base a) (h1 : base ≤ g) (h2 : g < w0.heap.size) (hb : base ≤ w.heap.size) : SpA w0 (w.setCells g i vs) base a :=
  ⟨((grown_setCells g vs i w).block _ h.box.lt (fun e => by injection e with e; omega)).trans h.box, h.bel.grown (grown_setCells g vs i w) hb (fun q hq => by cases hq; exact h1), h.p.setCells, fun s hs => (h.as_ s hs).setCells, h.m.setCells, h.x.setCells, h.l.setCells, h.k.setCells⟩
end Go.Proofs.YtojiieghjhjoaaaGreat
set_option linter.unusedVariables false
set_option linter.unusedSimpArgs false
namespace Go.Proofs.YtojiieghjhjoaaaGreat
open Go.RowKit Go.MapKept Go.Shelf
open Go.Lib hiding intOf

theorem Lg.eq_iff {a b : Lg} : (a.g = b.g ∧ a.a = b.a ∧ a.b = b.b) ↔ a = b := by
  cases a
  cases b
  simp
instance : DecidableEq Lg := fun a b => decidable_of_iff _ (Lg.eq_iff (a := a) (b := b))
/-- two lists that lie in memory, alike as far as looked at -/
theorem list_alike {α : Type} {xs ys : List α} (hl : xs.length = ys.length) (h : ∀ j, j < xs.length → xs[j]? = ys[j]?) : xs = ys := by
  apply List.ext_getElem?
  intro j
  by_cases hj : j < xs.length
  · exact h j hj
  · rw [List.getElem?_eq_none (by omega), List.getElem?_eq_none (by omega)]
theorem list_unlike {α : Type} {xs ys : List α} {k : Nat} {x y : α} (hx : xs[k]? = some x) (hy : ys[k]? = some y) (h : x ≠ y) : ¬ xs = ys := by
  intro e
  rw [e, hy] at hx
  exact h (Option.some.inj hx).symm

set_option maxRecDepth 100000 in
set_option maxHeartbeats 8000000 in
theorem eq_u32 (A B : Option Addr) (c d : Nat) (xs ys : List Nat) (w : World) (h1 : Rd w A 1 (nums .u32 xs)) (h2 : Rd w B 1 (nums .u32 ys)) (l1 : xs.length ≤ c) (l2 : ys.length ≤ d) (l3 : c ≤ 9223372036854775807) (l4 : d ≤ 9223372036854775807) :
    Calls Tryz.prog 52 #[.slice A xs.length c, .slice B ys.length d] w fun e w' => e = .returned (.bool (decide (xs = ys))) ∧ Below w.heap.size w w' := by
  have H1 := Lib.hid h1
  have H2 := Lib.hid h2
  clear h1 h2
  by_cases hl : xs.length = ys.length
  · generalize hr : decide (xs = ys) = r
    have HR := Lib.hid hr
    clear hr
    have HLE := Lib.hid hl
    generalize hm : ys.length = m at hl l2 ⊢
    subst hl
    clear hm
    have z1 : ((xs.length : Int) != (xs.length : Int)) = false := by simp
    go_enter Tryz.func52, Tryz.ntmps52
    go_wp2_with fail
    go_loopw [13] (fun i wr => ∃ k : Nat, k ≤ xs.length ∧ i = .int .i64 k ∧ Hid (Below w.heap.size w wr) ∧ Hid (∀ j, j < k → xs[j]? = ys[j]?)) (fun i _ => xs.length + 1 - (intOf i).toNat)
    case atStart => exact ⟨0, by omega, rfl, Below.refl _ _, fun j hj => by omega⟩
    case round =>
      obtain ⟨k, hk, rfl, HB, HE⟩ := hrel
      by_cases hlt : k < xs.length
      · obtain ⟨x, hx⟩ : ∃ x, xs[k]? = some x := ⟨xs[k], List.getElem?_eq_getElem hlt⟩
        obtain ⟨y, hy⟩ : ∃ y, ys[k]? = some y := ⟨ys[k]'(by have := HLE.out; omega), List.getElem?_eq_getElem (by have := HLE.out; omega)⟩
        obtain ⟨b1, o1, rfl, hb1, hc1⟩ := num_at (H1.out.below HB.out (Nat.le_refl _)) hx
        obtain ⟨b2, o2, rfl, hb2, hc2⟩ := num_at (H2.out.below HB.out (Nat.le_refl _)) hy
        have HX := Lib.hid hx
        have HY := Lib.hid hy
        clear hx hy
        by_cases hxy : x = y
        · subst hxy
          have hne : ((x : Int) != (x : Int)) = false := by simp
          have he : ((x : Int) == (x : Int)) = true := by simp
          go_wp2_with fail
          go_quiet (fail)
          go_wp2_with fail
          exact ⟨⟨k + 1, by omega, by go_num, below_drewN HB.out _, fun j hj => by
            by_cases e : j = k
            · subst e; exact HX.out.trans HY.out.symm
            · exact HE.out j (by omega)⟩, by simp [intOf]; omega⟩
        · obtain rfl : r = false := by rw [← HR.out]; exact decide_eq_false (list_unlike HX.out HY.out hxy)
          have he : ((x : Int) == (y : Int)) = false := beq_eq_false_iff_ne.2 (by omega)
          have hne : ((x : Int) != (y : Int)) = true := bne_iff_ne.2 (by omega)
          clear hxy
          go_wp2_with fail
          go_quiet (fail)
          go_wp2_with fail
          go_ret
          exact ⟨rfl, below_drewN HB.out _⟩
      · obtain rfl : k = xs.length := by omega
        obtain rfl : r = true := by rw [← HR.out]; exact decide_eq_true (list_alike HLE.out HE.out)
        go_wp2_with fail
        go_ret
        exact ⟨rfl, HB.out⟩
  · have hr : decide (xs = ys) = false := decide_eq_false_iff_not.2 (fun e => hl (by rw [e]))
    rw [hr]
    have hne : ((xs.length : Int) == (ys.length : Int)) = false := by rw [beq_eq_false_iff_ne]; omega
    have hnb : ((xs.length : Int) != (ys.length : Int)) = true := by simp [bne, hne]
    clear hr hl
    go_enter Tryz.func52, Tryz.ntmps52
    go_wp2_with fail
    go_ret
    exact ⟨rfl, Below.refl _ _⟩

end Go.Proofs.YtojiieghjhjoaaaGreat
