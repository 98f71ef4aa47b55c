/-
  Raw attributes judged: attr.Read walked. Conditions: sizes; what takes the types that occur.
-/
import Derived.Test.YtkcojblflebomaaGreatAbK
import Derived.Deep.DeepCutAuto
import Derived.Laws.EntriesVeiled
set_option linter.unusedVariables false
set_option linter.unusedSimpArgs false
namespace Go.Proofs.YtkcojblflebomaaGreat
open Go.RowKit Go.MapKept Go.Shelf
open Go.Lib hiding intOf

/-- a verdict -/
structure Vd where
  act : Int
  code : Nat
  sub : Nat
def Vd.ar (v : Vd) : Array Value := #[.int .i64 v.act, .int .u8 v.code, .int .u8 v.sub]
def judgeF (v w : Vd) : Vd := if v.act < w.act then w else v
/-- block b is a verdict -/
def VdAt (w : World) (b : Nat) (v : Vd) : Prop := CellsAt w b v.ar 42
set_option maxHeartbeats 4000000 in
theorem judge_any (b : Nat) (v x : Vd) (w : World) (h : VdAt w b v) :
    Calls Tryz.prog 38 #[.agg #[.int .i64 x.act, .int .u8 x.code, .int .u8 x.sub], .pointer (some ⟨b, 0, none⟩)] w fun e w' => e = .returned (.tuple #[]) ∧ VdAt w' b (judgeF v x) ∧ w.grownBy w' (some b) := by
  have HC := Lib.hid h
  have hlt := h.lt
  obtain ⟨c0, c1, c2⟩ := CellsAt.c3 h
  have f0 := CellsAt.unfrozen h 0
  have f1 := CellsAt.unfrozen h 1
  have f2 := CellsAt.unfrozen h 2
  clear h
  by_cases hq : v.act < x.act
  · have HJ : Hid (judgeF v x = x) := if_pos hq
    have hq1 : decide (v.act < x.act) = true := decide_eq_true hq
    go_enter Tryz.func38, Tryz.ntmps38
    go_wp2_with fail
    go_end0
    refine ⟨rfl, ?_, grown_trans (grown_trans (grown_trans (grown_setCell w ⟨b, 0, none⟩ _) (grown_setCell _ ⟨b, 1, none⟩ _)) (grown_setCell _ ⟨b, 2, none⟩ _)) (World.grownBy_alloc _ _ _)⟩
    rw [HJ.out]
    exact CellsAt.alloc (((HC.out.setAt 0 _).setAt 1 _).setAt 2 _) _
  · have HJ : Hid (judgeF v x = v) := if_neg hq
    have hq1 : decide (v.act < x.act) = false := decide_eq_false hq
    go_enter Tryz.func38, Tryz.ntmps38
    go_wp2_with fail
    go_end0
    refine ⟨rfl, by rw [HJ.out]; exact CellsAt.alloc HC.out _, World.grownBy_alloc _ _ _⟩
def metA (met : List UInt8) : Array Value := ((List.range 256).map fun i => Value.bool (met.contains (UInt8.ofNat i))).toArray
theorem metA_at (met : List UInt8) (t : UInt8) : (metA met)[t.toNat]? = some (.bool (met.contains t)) := by
  have h := t.toNat_lt
  unfold metA
  rw [List.getElem?_toArray, List.getElem?_map, List.getElem?_range h]
  simp
theorem metA_set (met : List UInt8) (t : UInt8) : (metA met).setIfInBounds t.toNat (.bool true) = metA (t :: met) := by
  have h := t.toNat_lt
  apply Array.ext'
  unfold metA
  rw [Array.toList_setIfInBounds]
  simp only [List.toList_toArray]
  apply List.ext_getElem?
  intro i
  rw [List.getElem?_set]
  by_cases hi : i < 256
  · by_cases e : t.toNat = i
    · subst e
      simp [h]
    · rw [if_neg e, List.getElem?_map, List.getElem?_map, List.getElem?_range hi]
      have hne : (UInt8.ofNat i == t) = false := by
        rw [beq_eq_false_iff_ne]
        intro e2
        rw [← e2, UInt8.toNat_ofNat'] at e
        omega
      simp only [Option.map_some, List.contains_cons, hne, Bool.false_or]
  · have h1 : t.toNat ≠ i := by omega
    rw [if_neg h1, List.getElem?_eq_none (by simp; omega), List.getElem?_eq_none (by simp; omega)]
theorem metA_none : Tryz.zeroCells76 = metA [] := by kernel_rfl
theorem OwnL.off {α : Type} {w w' : World} {base g : Nat} {e T : TypeId} {C : Nat} {F : α → List Value} {v : Value} {xs : List α} {cs : Array Value} (h : OwnL w base e C F v xs) (hg : w.grownBy w' (some g)) (hc : CellsAt w g cs T) (he : e ≠ T) : OwnL w' base e C F v xs :=
  OwnM.keep h (fun k hk => hg.block k (OwnM.lt h k hk).2 (fun e1 => by
    injection e1 with e1
    subst e1
    rcases h.2 with ⟨rfl, _⟩ | ⟨q, cap, cur, fr, rfl, _, hq, _⟩
    · simp [Value.ownBlock] at hk
    · simp [Value.ownBlock] at hk
      subst hk
      have h2 : w.heap[q]? = some (.cells cs T (0, 0)) := hc
      rw [hq] at h2
      injection h2 with h2
      injection h2 with _ h3
      exact he h3))
theorem SegsO.off {w w' : World} {base g : Nat} {T : TypeId} {v : Value} {segs : List Sg} {cs : Array Value} (h : SegsO w base v segs) (hg : w.grownBy w' (some g)) (hc : CellsAt w g cs T) (h1 : 61 ≠ T) (h2 : 35 ≠ T) : SegsO w' base v segs :=
  ⟨h.own.off hg hc h1, fun s hs => ⟨(h.as_ s hs).1.off hg hc h2, (h.as_ s hs).2⟩⟩
/-- where another variable turns, attributes stay -/
theorem AtVar.off {w w' : World} {b g : Nat} {c : AtC} {T : TypeId} {cs : Array Value} (h : AtVar w b c) (hg : w.grownBy w' (some g)) (hc : CellsAt w g cs T) (hb : b ≠ g) (h1 : 61 ≠ T) (h2 : 35 ≠ T) (h3 : 57 ≠ T) (h4 : 59 ≠ T) : AtVar w' b c := by
  obtain ⟨a, q1, q2, q3⟩ := h.x
  exact ⟨a, q1.row hg hb, { q2 with path := q2.path.off hg hc h1 h2, comms := q2.comms.off hg hc h2, exts := q2.exts.off hg hc h3, larges := q2.larges.off hg hc h4, clus := q2.clus.off hg hc h2 }, q3⟩
/-- what Read has in hand: s is where its variables begin -/
structure RS (w0 : World) (s : Nat) (wr : World) (met : List UInt8) (c : AtC) (v : Vd) : Prop where
  r1 : CellsAt wr s noAtr.ar 40
  r2 : VdAt wr (s + 1) ⟨0, 0, 0⟩
  a : AtVar wr (s + 1 + 1) c
  v : VdAt wr (s + 1 + 1 + 1) v
  m : CellsAt wr (s + 1 + 1 + 1 + 1) (metA met) 76
  b : Below s w0 wr
theorem RS.below {w0 wr w' : World} {s : Nat} {met : List UInt8} {c : AtC} {v : Vd} (h : RS w0 s wr met c v) (hb : Below wr.heap.size wr w') : RS w0 s w' met c v :=
  ⟨h.r1.below hb h.r1.lt, CellsAt.below h.r2 hb (CellsAt.lt h.r2), h.a.below hb, CellsAt.below h.v hb (CellsAt.lt h.v), h.m.below hb h.m.lt, h.b.trans (hb.mono (Nat.le_of_lt h.r1.lt))⟩
theorem RS.judge {w0 wr w' : World} {s : Nat} {met : List UInt8} {c : AtC} {v x : Vd} (h : RS w0 s wr met c v) (hg : wr.grownBy w' (some (s + 1 + 1 + 1))) (hv : VdAt w' (s + 1 + 1 + 1) x) : RS w0 s w' met c x :=
  ⟨h.r1.row hg (by omega), CellsAt.row h.r2 hg (by omega), h.a.off hg h.v (by omega) (by decide) (by decide) (by decide) (by decide), hv, h.m.row hg (by omega), h.b.grown hg (Nat.le_of_lt h.r1.lt) (fun k hk => by cases hk; omega)⟩
theorem RS.meet {w0 wr : World} {s : Nat} {met : List UInt8} {c : AtC} {v : Vd} (h : RS w0 s wr met c v) (t : UInt8) : RS w0 s (wr.setCell ⟨s + 1 + 1 + 1 + 1, t.toNat, none⟩ (.bool true)) (t :: met) c v := by
  have hg : wr.grownBy (wr.setCell ⟨s + 1 + 1 + 1 + 1, t.toNat, none⟩ (.bool true)) (some (s + 1 + 1 + 1 + 1)) := grown_setCell wr ⟨s + 1 + 1 + 1 + 1, t.toNat, none⟩ (.bool true)
  refine ⟨h.r1.row hg (by show s ≠ s + 1 + 1 + 1 + 1; omega), CellsAt.row h.r2 hg (by show s + 1 ≠ s + 1 + 1 + 1 + 1; omega), h.a.off hg h.m (by omega) (by decide) (by decide) (by decide) (by decide), CellsAt.row h.v hg (by show s + 1 + 1 + 1 ≠ s + 1 + 1 + 1 + 1; omega), ?_, Below.setCell h.b (by show s ≤ s + 1 + 1 + 1 + 1; omega) _⟩
  have := h.m.setAt t.toNat (.bool true)
  rwa [metA_set] at this
theorem RS.take {w0 wr w' : World} {s : Nat} {met : List UInt8} {c c' : AtC} {v : Vd} (h : RS w0 s wr met c v) (hk : Tk wr w' (s + 1 + 1)) (ha : AtVar w' (s + 1 + 1) c') : RS w0 s w' met c' v :=
  ⟨hk.cells h.r1 (by omega) (by decide), Tk.cells hk h.r2 (by omega) (by decide), ha, Tk.cells hk h.v (by omega) (by decide), hk.cells h.m (by omega) (by decide), h.b.trans (hk.below.mono (by omega))⟩
/-- one raw attribute: what becomes of the attributes and of the worst verdict -/
def readStep (T : Nat → ByteArray → Bool → AtC → AtC × Bool) (four internal : Bool) (met : List UInt8) (c : AtC) (v : Vd) (x : Rw) : AtC × Vd :=
  if x.t.toNat = 14 ∨ x.t.toNat = 15 then (if met.contains x.t = true then (c, judgeF v ⟨3, 3, 1⟩) else (c, v))
  else if met.contains x.t = true then (c, v)
  else match rowF x.t.toNat with
    | none => if x.f &&& 128 = 0 then (c, judgeF v ⟨3, 3, 2⟩) else (c, v)
    | some (b, wrong, inside, _) => if (inside && !internal) = true then (c, judgeF v ⟨1, 0, 0⟩)
      else if ((x.f &&& 192).toNat : Int) ≠ b then (c, judgeF v ⟨2, 0, 0⟩)
      else if (T x.t.toNat x.v four c).2 = true then ((T x.t.toNat x.v four c).1, v) else ((T x.t.toNat x.v four c).1, judgeF v ⟨wrong, 0, 0⟩)
def readF (T : Nat → ByteArray → Bool → AtC → AtC × Bool) (four internal : Bool) : List UInt8 → AtC → Vd → List Rw → AtC × Vd
  | _, c, v, [] => (c, v)
  | met, c, v, x :: r => readF T four internal (x.t :: met) (readStep T four internal met c v x).1 (readStep T four internal met c v x).2 r
end Go.Proofs.YtkcojblflebomaaGreat
