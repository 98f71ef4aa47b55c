/-
  Several texts in one.
-/
import Derived.Test.YtkcojblflebomaaGreatNR16
import Derived.Test.YtkcojblflebomaaGreatNR14
import Derived.Deep.DeepCutAuto
import Derived.Laws.EntriesVeiled
import Derived.Deep.MidRow
import Derived.Test.YtkcojblflebomaaGreatNR15
import Derived.Test.YtkcojblflebomaaGreatNR7
import Derived.OrdersHeld
import Derived.Test.YtkcojblflebomaaGreatNR4
set_option linter.unusedVariables false
set_option linter.unusedSimpArgs false
namespace Go.Proofs.YtkcojblflebomaaGreat
open Go.RowKit Go.MapKept Go.Shelf
open Go.Lib hiding intOf

set_option maxHeartbeats 4000000 in
theorem lay0_m (A : Option Addr) (c : Nat) (f g : Value) (w : World) : Calls Tryz.prog 98 #[.slice A 0 c, f, g] w fun e w' => e = .returned (.tuple #[.string (bts []), .int .i64 0]) ∧ w = w' := by
  go_enter Tryz.func98, Tryz.ntmps98
  go_wp2_with fail
  refine wp_loop_rounds 1 ?_
  rw [rounds_succ]
  go_wp2_with fail
  go_ret2
  exact ⟨rfl, rfl⟩
theorem enc0_m (A : Option Addr) (c : Nat) (w : World) : Calls Tryz.prog 52 #[.slice A 0 c] w fun e w' => e = .returned (.tuple #[.string (bts []), .int .i64 0]) ∧ Below w.heap.size w w' := by
  have HL := Lib.hid lay0_m
  go_enter Tryz.func52, Tryz.ntmps52
  go_wp2_with fail
  refine (HL.out A c _ _ _).mono ?_
  rintro e w1 ⟨rfl, rfl⟩
  go_wp2_with fail
  go_ret2
  exact ⟨rfl, Below.refl _ _⟩
set_option maxHeartbeats 4000000 in
theorem lay0_x (A : Option Addr) (c : Nat) (f g : Value) (w : World) : Calls Tryz.prog 101 #[.slice A 0 c, f, g] w fun e w' => e = .returned (.tuple #[.string (bts []), .int .i64 0]) ∧ w = w' := by
  go_enter Tryz.func101, Tryz.ntmps101
  go_wp2_with fail
  refine wp_loop_rounds 1 ?_
  rw [rounds_succ]
  go_wp2_with fail
  go_ret2
  exact ⟨rfl, rfl⟩
theorem enc0_x (A : Option Addr) (c : Nat) (w : World) : Calls Tryz.prog 53 #[.slice A 0 c] w fun e w' => e = .returned (.tuple #[.string (bts []), .int .i64 0]) ∧ Below w.heap.size w w' := by
  have HL := Lib.hid lay0_x
  go_enter Tryz.func53, Tryz.ntmps53
  go_wp2_with fail
  refine (HL.out A c _ _ _).mono ?_
  rintro e w1 ⟨rfl, rfl⟩
  go_wp2_with fail
  go_ret2
  exact ⟨rfl, Below.refl _ _⟩
set_option maxHeartbeats 4000000 in
theorem lay0_l (A : Option Addr) (c : Nat) (f g : Value) (w : World) : Calls Tryz.prog 103 #[.slice A 0 c, f, g] w fun e w' => e = .returned (.tuple #[.string (bts []), .int .i64 0]) ∧ w = w' := by
  go_enter Tryz.func103, Tryz.ntmps103
  go_wp2_with fail
  refine wp_loop_rounds 1 ?_
  rw [rounds_succ]
  go_wp2_with fail
  go_ret2
  exact ⟨rfl, rfl⟩
theorem enc0_l (A : Option Addr) (c : Nat) (w : World) : Calls Tryz.prog 54 #[.slice A 0 c] w fun e w' => e = .returned (.tuple #[.string (bts []), .int .i64 0]) ∧ Below w.heap.size w w' := by
  have HL := Lib.hid lay0_l
  go_enter Tryz.func54, Tryz.ntmps54
  go_wp2_with fail
  refine (HL.out A c _ _ _).mono ?_
  rintro e w1 ⟨rfl, rfl⟩
  go_wp2_with fail
  go_ret2
  exact ⟨rfl, Below.refl _ _⟩
theorem enc_none {a : Atr} (h1 : a.comms = []) (h2 : a.exts = []) (h3 : a.larges = []) : EncSpec a := by
  refine ⟨fun W _ => ?_, fun W _ => ?_, fun W _ => ?_⟩
  · rw [h1]; exact enc0_m _ _ _
  · rw [h2]; exact enc0_x _ _ _
  · rw [h3]; exact enc0_l _ _ _
end Go.Proofs.YtkcojblflebomaaGreat
set_option linter.unusedVariables false
set_option linter.unusedSimpArgs false
namespace Go.Proofs.YtkcojblflebomaaGreat
open Go.RowKit Go.MapKept Go.Shelf
open Go.Lib hiding intOf

/-- a verdict -/
structure Vd where
  act : Int
  code : Nat
  sub : Nat
def Vd.ar (v : Vd) : Array Value := #[.int .i64 v.act, .int .u8 v.code, .int .u8 v.sub]
def judgeF (v w : Vd) : Vd := if v.act < w.act then w else v
/-- block b is a verdict -/
def VdAt (w : World) (b : Nat) (v : Vd) : Prop := CellsAt w b v.ar 42
set_option maxHeartbeats 4000000 in
theorem judge_any (b : Nat) (v x : Vd) (w : World) (h : VdAt w b v) :
    Calls Tryz.prog 38 #[.agg #[.int .i64 x.act, .int .u8 x.code, .int .u8 x.sub], .pointer (some ⟨b, 0, none⟩)] w fun e w' => e = .returned (.tuple #[]) ∧ VdAt w' b (judgeF v x) ∧ w.grownBy w' (some b) := by
  have HC := Lib.hid h
  have hlt := h.lt
  obtain ⟨c0, c1, c2⟩ := CellsAt.c3 h
  have f0 := CellsAt.unfrozen h 0
  have f1 := CellsAt.unfrozen h 1
  have f2 := CellsAt.unfrozen h 2
  clear h
  by_cases hq : v.act < x.act
  · have HJ : Hid (judgeF v x = x) := if_pos hq
    have hq1 : decide (v.act < x.act) = true := decide_eq_true hq
    go_enter Tryz.func38, Tryz.ntmps38
    go_wp2_with fail
    go_end0
    refine ⟨rfl, ?_, grown_trans (grown_trans (grown_trans (grown_setCell w ⟨b, 0, none⟩ _) (grown_setCell _ ⟨b, 1, none⟩ _)) (grown_setCell _ ⟨b, 2, none⟩ _)) (World.grownBy_alloc _ _ _)⟩
    rw [HJ.out]
    exact CellsAt.alloc (((HC.out.setAt 0 _).setAt 1 _).setAt 2 _) _
  · have HJ : Hid (judgeF v x = v) := if_neg hq
    have hq1 : decide (v.act < x.act) = false := decide_eq_false hq
    go_enter Tryz.func38, Tryz.ntmps38
    go_wp2_with fail
    go_end0
    refine ⟨rfl, by rw [HJ.out]; exact CellsAt.alloc HC.out _, World.grownBy_alloc _ _ _⟩
def metA (met : List UInt8) : Array Value := ((List.range 256).map fun i => Value.bool (met.contains (UInt8.ofNat i))).toArray
theorem metA_at (met : List UInt8) (t : UInt8) : (metA met)[t.toNat]? = some (.bool (met.contains t)) := by
  have h := t.toNat_lt
  unfold metA
  rw [List.getElem?_toArray, List.getElem?_map, List.getElem?_range h]
  simp
theorem metA_set (met : List UInt8) (t : UInt8) : (metA met).setIfInBounds t.toNat (.bool true) = metA (t :: met) := by
  have h := t.toNat_lt
  apply Array.ext'
  unfold metA
  rw [Array.toList_setIfInBounds]
  simp only [List.toList_toArray]
  apply List.ext_getElem?
  intro i
  rw [List.getElem?_set]
  by_cases hi : i < 256
  · by_cases e : t.toNat = i
    · subst e
      simp [h]
    · rw [if_neg e, List.getElem?_map, List.getElem?_map, List.getElem?_range hi]
      have hne : (UInt8.ofNat i == t) = false := by
        rw [beq_eq_false_iff_ne]
        intro e2
        rw [← e2, UInt8.toNat_ofNat'] at e
        omega
      simp only [Option.map_some, List.contains_cons, hne, Bool.false_or]
  · have h1 : t.toNat ≠ i := by omega
    rw [if_neg h1, List.getElem?_eq_none (by simp; omega), List.getElem?_eq_none (by simp; omega)]
theorem metA_none : Tryz.zeroCells76 = metA [] := by kernel_rfl
theorem OwnL.off {α : Type} {w w' : World} {base g : Nat} {e T : TypeId} {C : Nat} {F : α → List Value} {v : Value} {xs : List α} {cs : Array Value} (h : OwnL w base e C F v xs) (hg : w.grownBy w' (some g)) (hc : CellsAt w g cs T) (he : e ≠ T) : OwnL w' base e C F v xs :=
  OwnM.keep h (fun k hk => hg.block k (OwnM.lt h k hk).2 (fun e1 => by
    injection e1 with e1
    subst e1
    rcases h.2 with ⟨rfl, _⟩ | ⟨q, cap, cur, fr, rfl, _, hq, _⟩
    · simp [Value.ownBlock] at hk
    · simp [Value.ownBlock] at hk
      subst hk
      have h2 : w.heap[q]? = some (.cells cs T (0, 0)) := hc
      rw [hq] at h2
      injection h2 with h2
      injection h2 with _ h3
      exact he h3))
theorem SegsO.off {w w' : World} {base g : Nat} {T : TypeId} {v : Value} {segs : List Sg} {cs : Array Value} (h : SegsO w base v segs) (hg : w.grownBy w' (some g)) (hc : CellsAt w g cs T) (h1 : 61 ≠ T) (h2 : 35 ≠ T) : SegsO w' base v segs :=
  ⟨h.own.off hg hc h1, fun s hs => ⟨(h.as_ s hs).1.off hg hc h2, (h.as_ s hs).2⟩⟩
/-- where another variable turns, attributes stay -/
theorem AtVar.off {w w' : World} {b g : Nat} {c : AtC} {T : TypeId} {cs : Array Value} (h : AtVar w b c) (hg : w.grownBy w' (some g)) (hc : CellsAt w g cs T) (hb : b ≠ g) (h1 : 61 ≠ T) (h2 : 35 ≠ T) (h3 : 57 ≠ T) (h4 : 59 ≠ T) : AtVar w' b c := by
  obtain ⟨a, q1, q2, q3⟩ := h.x
  exact ⟨a, q1.row hg hb, { q2 with path := q2.path.off hg hc h1 h2, comms := q2.comms.off hg hc h2, exts := q2.exts.off hg hc h3, larges := q2.larges.off hg hc h4, clus := q2.clus.off hg hc h2 }, q3⟩
/-- what Read has in hand: s is where its variables begin -/
structure RS (w0 : World) (s : Nat) (wr : World) (met : List UInt8) (c : AtC) (v : Vd) : Prop where
  r1 : CellsAt wr s noAtr.ar 40
  r2 : VdAt wr (s + 1) ⟨0, 0, 0⟩
  a : AtVar wr (s + 1 + 1) c
  v : VdAt wr (s + 1 + 1 + 1) v
  m : CellsAt wr (s + 1 + 1 + 1 + 1) (metA met) 76
  b : Below s w0 wr
theorem RS.below {w0 wr w' : World} {s : Nat} {met : List UInt8} {c : AtC} {v : Vd} (h : RS w0 s wr met c v) (hb : Below wr.heap.size wr w') : RS w0 s w' met c v :=
  ⟨h.r1.below hb h.r1.lt, CellsAt.below h.r2 hb (CellsAt.lt h.r2), h.a.below hb, CellsAt.below h.v hb (CellsAt.lt h.v), h.m.below hb h.m.lt, h.b.trans (hb.mono (Nat.le_of_lt h.r1.lt))⟩
theorem RS.judge {w0 wr w' : World} {s : Nat} {met : List UInt8} {c : AtC} {v x : Vd} (h : RS w0 s wr met c v) (hg : wr.grownBy w' (some (s + 1 + 1 + 1))) (hv : VdAt w' (s + 1 + 1 + 1) x) : RS w0 s w' met c x :=
  ⟨h.r1.row hg (by omega), CellsAt.row h.r2 hg (by omega), h.a.off hg h.v (by omega) (by decide) (by decide) (by decide) (by decide), hv, h.m.row hg (by omega), h.b.grown hg (Nat.le_of_lt h.r1.lt) (fun k hk => by cases hk; omega)⟩
theorem RS.meet {w0 wr : World} {s : Nat} {met : List UInt8} {c : AtC} {v : Vd} (h : RS w0 s wr met c v) (t : UInt8) : RS w0 s (wr.setCell ⟨s + 1 + 1 + 1 + 1, t.toNat, none⟩ (.bool true)) (t :: met) c v := by
  have hg : wr.grownBy (wr.setCell ⟨s + 1 + 1 + 1 + 1, t.toNat, none⟩ (.bool true)) (some (s + 1 + 1 + 1 + 1)) := grown_setCell wr ⟨s + 1 + 1 + 1 + 1, t.toNat, none⟩ (.bool true)
  refine ⟨h.r1.row hg (by show s ≠ s + 1 + 1 + 1 + 1; omega), CellsAt.row h.r2 hg (by show s + 1 ≠ s + 1 + 1 + 1 + 1; omega), h.a.off hg h.m (by omega) (by decide) (by decide) (by decide) (by decide), CellsAt.row h.v hg (by show s + 1 + 1 + 1 ≠ s + 1 + 1 + 1 + 1; omega), ?_, Below.setCell h.b (by show s ≤ s + 1 + 1 + 1 + 1; omega) _⟩
  have := h.m.setAt t.toNat (.bool true)
  rwa [metA_set] at this
theorem RS.take {w0 wr w' : World} {s : Nat} {met : List UInt8} {c c' : AtC} {v : Vd} (h : RS w0 s wr met c v) (hk : Tk wr w' (s + 1 + 1)) (ha : AtVar w' (s + 1 + 1) c') : RS w0 s w' met c' v :=
  ⟨hk.cells h.r1 (by omega) (by decide), Tk.cells hk h.r2 (by omega) (by decide), ha, Tk.cells hk h.v (by omega) (by decide), hk.cells h.m (by omega) (by decide), h.b.trans (hk.below.mono (by omega))⟩
/-- one raw attribute: what becomes of the attributes and of the worst verdict -/
def readStep (T : Nat → ByteArray → Bool → AtC → AtC × Bool) (four internal : Bool) (met : List UInt8) (c : AtC) (v : Vd) (x : Rw) : AtC × Vd :=
  if x.t.toNat = 14 ∨ x.t.toNat = 15 then (if met.contains x.t = true then (c, judgeF v ⟨3, 3, 1⟩) else (c, v))
  else if met.contains x.t = true then (c, v)
  else match rowF x.t.toNat with
    | none => if x.f &&& 128 = 0 then (c, judgeF v ⟨3, 3, 2⟩) else (c, v)
    | some (b, wrong, inside, _) => if (inside && !internal) = true then (c, judgeF v ⟨1, 0, 0⟩)
      else if ((x.f &&& 192).toNat : Int) ≠ b then (c, judgeF v ⟨2, 0, 0⟩)
      else if (T x.t.toNat x.v four c).2 = true then ((T x.t.toNat x.v four c).1, v) else ((T x.t.toNat x.v four c).1, judgeF v ⟨wrong, 0, 0⟩)
def readF (T : Nat → ByteArray → Bool → AtC → AtC × Bool) (four internal : Bool) : List UInt8 → AtC → Vd → List Rw → AtC × Vd
  | _, c, v, [] => (c, v)
  | met, c, v, x :: r => readF T four internal (x.t :: met) (readStep T four internal met c v x).1 (readStep T four internal met c v x).2 r
end Go.Proofs.YtkcojblflebomaaGreat
set_option linter.unusedVariables false
set_option linter.unusedSimpArgs false
namespace Go.Proofs.YtkcojblflebomaaGreat
open Go.RowKit Go.MapKept Go.Shelf
open Go.Lib hiding intOf

theorem attrs_ones (p : Atr) : p.ar.all Value.oneCell' = true := Array.all_eq_true_iff_forall_mem.2 (fun u hu => by
  simp only [Atr.ar, List.mem_toArray, List.mem_cons, List.not_mem_nil, or_false] at hu
  rcases hu with rfl | rfl | rfl | rfl | rfl | rfl | rfl | rfl | rfl | rfl | rfl | rfl | rfl | rfl | rfl | rfl <;> rfl)
theorem wpList_store_attrs {ops : Array Oper} {rest : List Oper} {op : Oper} {a : Act} {w : World} {Q : Exit → Act → World → Prop} (hgd : op.guard = none) (x y : Operand) (ho : op.op = .store 40 x y) (b : Nat) (hx : a.eval x = .pointer (some ⟨b, 0, none⟩)) (p : Atr) (hy : a.eval y = .agg p.ar) (q : Atr) (hc : CellsAt w b q.ar 40)
    (h : wpList Tryz.prog ops Q rest (a.put op.dst undef) (w.setRow b p.ar)) : wpList Tryz.prog ops Q (op :: rest) a w :=
  wpList_store_row hgd 40 x y ho b p.ar hx hy 40 q.ar hc (by rw [attrs_size]; rfl) rfl (attrs_ones p) h
theorem CellsAt.setRow' {w : World} {b : Nat} {cs : Array Value} {T : TypeId} (h : CellsAt w b cs T) (ds : Array Value) : CellsAt (w.setRow b ds) b ds T := setRow_heap w b _ _ _ _ h
theorem grown_setRow' (w : World) (b : Nat) (ds : Array Value) : w.grownBy (w.setRow b ds) (some b) :=
  ⟨rfl, rfl, rfl, by rw [setRow_size]; exact Nat.le_refl _, fun i h1 h2 => setRow_other w b i ds (fun e => h2 (by rw [e]))⟩
theorem results_attrs {fn : Func} {p : Tmp} (h : fn.results = #[.cell p 40]) (tmps : Array Value) (w : World) (g : Nat) (x : Atr) (hp : tmps.getD p undef = .pointer (some ⟨g, 0, none⟩)) (hg : CellsAt w g x.ar 40) :
    (results fn tmps).run Tryz.prog w = .ok x.v w := by
  obtain ⟨fs, hu⟩ := attrs_under
  exact results_cell_row h tmps w g 40 x.ar (0, 0) _ hp hg hu rfl (by rw [attrs_size]; rfl)
def oneC : AtC := ⟨1, [(2, [1])], ⟨#[10, 0, 0, 1]⟩, false, 0, false, 0, false, 0, 0, [], [], [], false, 0, []⟩
def oneA (n : Nat) : Atr := ⟨1, some ⟨n + 1 + 1, 0, none⟩, [⟨2, some ⟨n + 1, 0, none⟩, [1], 1⟩], 1, ⟨#[10, 0, 0, 1]⟩, false, 0, false, 0, false, 0, 0, none, [], 0, none, [], 0, none, [], 0, false, 0, none, [], 0⟩
theorem rd_none (w : World) (C : Nat) : Rd w none C [] := fun h => absurd h (by simp)
theorem oneA_ok {w : World} {n : Nat} (h1 : CellsAt w (n + 1) #[.int .u32 1] 35) (h2 : CellsAt w (n + 1 + 1) #[.int .i64 2, .slice (some ⟨n + 1, 0, none⟩) 1 1] 61) : AtrOk w (oneA n) := by
  have hs : SgOk w ⟨2, some ⟨n + 1, 0, none⟩, [1], 1⟩ := by
    refine ⟨fun _ => ⟨n + 1, 0, rfl, h1.lt, fun i cs hi j u hu => ?_⟩, Nat.le_refl _, show (1 : Nat) ≤ maxLen by decide, show ∀ n ∈ [1], n < 4294967296 by decide, show (-9223372036854775808 : Int) ≤ 2 ∧ (2 : Int) ≤ 9223372036854775807 by decide⟩
    match i, hi with
    | 0, hi =>
      obtain rfl : [Value.int .u32 ((1 : Nat) : Int)] = cs := Option.some.inj hi
      rw [show 0 + 0 * 1 + j = j by omega, h1.c, ← Array.getElem?_toList]
      exact hu
    | i + 1, hi => cases hi
  exact {
    prd := fun _ => ⟨n + 1 + 1, 0, rfl, h2.lt, fun i cs hi j u hu => by
      match i, hi with
      | 0, hi =>
        obtain rfl : [Value.int .i64 2, .slice (some ⟨n + 1, 0, none⟩) 1 1] = cs := Option.some.inj hi
        rw [show 0 + 0 * 2 + j = j by omega, h2.c, ← Array.getElem?_toList]
        exact hu
      | i + 1, hi => cases hi⟩
    segs := fun s hm => by
      obtain rfl := List.mem_singleton.1 hm
      exact hs
    plen := Nat.le_refl _
    pcap := show (1 : Nat) ≤ maxLen by decide
    next := show (4 : Nat) ≤ 9223372036854775807 by decide
    mrd := rd_none _ _
    mlen := Nat.le_refl _
    mcap := show (0 : Nat) ≤ maxLen by decide
    mfit := fun n h => by cases h
    xrd := rd_none _ _
    xlen := Nat.le_refl _
    xcap := show (0 : Nat) ≤ maxLen by decide
    xfit := fun n h => by cases h
    lrd := rd_none _ _
    llen := Nat.le_refl _
    lcap := show (0 : Nat) ≤ maxLen by decide
    lfit := fun n h => by cases h
    krd := rd_none _ _
    klen := Nat.le_refl _
    kcap := show (0 : Nat) ≤ maxLen by decide
    kfit := fun n h => by cases h
    ofit := show (-9223372036854775808 : Int) ≤ 1 ∧ (1 : Int) ≤ 9223372036854775807 by decide
    nfit := show (0 : Nat) < 4294967296 ∧ (0 : Nat) < 4294967296 ∧ (0 : Nat) < 4294967296 ∧ (0 : Nat) < 4294967296 ∧ (0 : Nat) < 4294967296 by decide }
set_option maxRecDepth 100000 in
set_option maxHeartbeats 4000000 in
theorem one_any (w : World) : Calls Tryz.prog 32 #[] w fun e w' => (∃ a : Atr, e = .returned a.v ∧ AtrOk w' a ∧ a.c = oneC) ∧ Below w.heap.size w w' := by
  go_enter Tryz.func32, Tryz.ntmps32
  have HA1 : Hid (∀ cs : Array Value, CellsAt (((w.alloc (.cells cs 40)).alloc (.cells #[.int .u32 1] 35)).alloc (.cells #[.int .i64 2, .slice (some ⟨w.heap.size + 1, 0, none⟩) 1 1] 61)) w.heap.size cs 40) := fun cs => ((CellsAt.new _ _ _).alloc _).alloc _
  have HA2 : Hid (∀ cs : Array Value, AtrOk (((w.alloc (.cells cs 40)).alloc (.cells #[.int .u32 1] 35)).alloc (.cells #[.int .i64 2, .slice (some ⟨w.heap.size + 1, 0, none⟩) 1 1] 61)) (oneA w.heap.size)) := fun cs => by
    have e1 : (w.alloc (.cells cs 40)).heap.size = w.heap.size + 1 := by simp
    have e2 : ((w.alloc (.cells cs 40)).alloc (.cells #[.int .u32 1] 35)).heap.size = w.heap.size + 1 + 1 := by simp
    have h1 := CellsAt.new (w.alloc (.cells cs 40)) #[.int .u32 1] 35
    have h2 := CellsAt.new ((w.alloc (.cells cs 40)).alloc (.cells #[.int .u32 1] 35)) #[.int .i64 2, .slice (some ⟨w.heap.size + 1, 0, none⟩) 1 1] 61
    rw [e1] at h1
    rw [e2] at h2
    exact oneA_ok (h1.alloc _) h2
  have HA3 : Hid (∀ cs : Array Value, Below w.heap.size w (((w.alloc (.cells cs 40)).alloc (.cells #[.int .u32 1] 35)).alloc (.cells #[.int .i64 2, .slice (some ⟨w.heap.size + 1, 0, none⟩) 1 1] 61))) := fun cs => (((Below.refl _ _).alloc (Nat.le_refl _) _).alloc (by simp) _).alloc (by simp; omega) _
  go_wp2_with fail
  try simp only [Exit.inBlock, Exit.then]
  exact bodyPost_ret (results_attrs rfl _ _ w.heap.size (oneA w.heap.size) rfl (HA1.out (oneA w.heap.size).ar)) rfl ⟨⟨_, rfl, HA2.out (oneA w.heap.size).ar, rfl⟩, HA3.out (oneA w.heap.size).ar⟩
def oneRaws : List Rw := [⟨64, 1, ⟨#[1]⟩⟩, ⟨64, 2, ⟨#[2, 1, 0, 0, 0, 1]⟩⟩, ⟨64, 3, ⟨#[10, 0, 0, 1]⟩⟩]
def laidB : ByteArray := ⟨#[64, 1, 1, 1, 64, 2, 6, 2, 1, 0, 0, 0, 1, 64, 3, 4, 10, 0, 0, 1]⟩
def workT (t : Nat) : ByteArray → Bool → AtC → AtC × Bool := if t = 1 then fun v _ c => take1 v c else if t = 2 then take2 else fun v _ c => take3 v c
theorem one_ok : atOk oneC = true := by decide +kernel
theorem one_write : writeF oneC true = oneRaws := by kernel_rfl
theorem one_lay : layR oneRaws = .tuple #[.string laidB, .int .i64 0] := by kernel_rfl
theorem one_split : splitA laidB = some oneRaws := by kernel_rfl
theorem one_read : readF workT true true [] ⟨0, [], ⟨#[]⟩, false, 0, false, 0, false, 0, 0, [], [], [], false, 0, []⟩ ⟨0, 0, 0⟩ oneRaws = (oneC, ⟨0, 0, 0⟩) := by kernel_rfl
end Go.Proofs.YtkcojblflebomaaGreat
set_option linter.unusedVariables false
set_option linter.unusedSimpArgs false
namespace Go.Proofs.YtkcojblflebomaaGreat
open Go.RowKit Go.MapKept Go.Shelf
open Go.Lib hiding intOf

/-- a cell of a list of one's own stored over -/
theorem OwnM.setIn {w : World} {base n C g cap j : Nat} {e : TypeId} {xs : List Value} (h : OwnM w base e C (.slice (some ⟨g, 0, none⟩) n cap) n xs) (u : Value) (hj : j < n * C) : OwnM (w.setCell ⟨g, j, none⟩ u) base e C (.slice (some ⟨g, 0, none⟩) n cap) n (xs.set j u) := by
  refine ⟨by rw [List.length_set]; exact h.1, ?_⟩
  rcases h.2 with ⟨h1, _⟩ | ⟨g2, cap2, cur, fr, hv, hb, hg, hf, hn, hm, hs, ht⟩
  · cases h1
  · injection hv with e1 e2 e3
    injection e1 with e1
    injection e1 with e1 _ _
    subst e1
    subst e3
    refine .inr ⟨g, cap, cur.setIfInBounds j u, fr, rfl, hb, ?_, ?_, hn, hm, by rw [Array.size_setIfInBounds]; exact hs, ?_⟩
    · rw [setCell_eq_setRow w g j _ _ _ _ hg]
      exact setRow_heap w g _ _ _ _ hg
    · rw [Array.size_setIfInBounds]
      exact hf
    · rw [Array.toList_setIfInBounds, List.take_set, ht]
theorem flat_set {α : Type} {F : α → List Value} {C : Nat} (hF : ∀ a, (F a).length = C) : ∀ (xs : List α) (i : Nat) (x : α) (j : Nat) (u : Value) (y : α), xs[i]? = some x → j < C → F y = (F x).set j u → (xs.set i y).flatMap F = (xs.flatMap F).set (i * C + j) u
  | [], i, x, j, u, y, h, _, _ => by simp at h
  | a :: r, 0, x, j, u, y, h, hj, hy => by
    simp only [List.getElem?_cons_zero, Option.some.injEq] at h
    subst h
    rw [List.set_cons_zero, List.flatMap_cons, List.flatMap_cons, hy, Nat.zero_mul, Nat.zero_add, List.set_append_left _ _ (by rw [hF]; exact hj)]
  | a :: r, i + 1, x, j, u, y, h, hj, hy => by
    rw [List.getElem?_cons_succ] at h
    rw [List.set_cons_succ, List.flatMap_cons, List.flatMap_cons, flat_set hF r i x j u y h hj hy, List.set_append_right _ _ (by rw [hF, Nat.succ_mul]; omega), hF]
    congr 2
    rw [Nat.succ_mul]
    omega
/-- a path that is cloned segment by segment -/
structure CpP (w : World) (base : Nat) (A : Option Addr) (n c : Nat) (orig segs : List Sg) (k : Nat) : Prop where
  len : segs.length = n
  own : OwnL w base 61 2 Sg.cs (.slice A n c) segs
  con : segs.map Sg.c = orig.map Sg.c
  done : ∀ j s, j < k → segs[j]? = some s → OwnL w base 35 1 u1 (.slice s.A s.as_.length s.cap) s.as_
  left : ∀ j, k ≤ j → segs[j]? = orig[j]?
theorem CpP.keep {w w' : World} {base : Nat} {A : Option Addr} {n c k : Nat} {orig segs : List Sg} (h : CpP w base A n c orig segs k) (hk : ∀ i, base ≤ i → i < w.heap.size → w'.heap[i]? = w.heap[i]?) : CpP w' base A n c orig segs k :=
  ⟨h.len, h.own.keep hk, h.con, fun j s h1 h2 => (h.done j s h1 h2).keep hk, h.left⟩
theorem CpP.step {w : World} {base : Nat} {g n c k : Nat} {orig segs : List Sg} (h : CpP w base (some ⟨g, 0, none⟩) n c orig segs k) {s : Sg} (hs : segs[k]? = some s) (hk : k < n) (A2 : Option Addr) (c2 : Nat) (ho : OwnL w base 35 1 u1 (.slice A2 s.as_.length c2) s.as_) :
    CpP (w.setCell ⟨g, k * 2 + 1, none⟩ (.slice A2 s.as_.length c2)) base (some ⟨g, 0, none⟩) n c orig (segs.set k ⟨s.kind, A2, s.as_, c2⟩) (k + 1) := by
  have hne : ∀ (t : TypeId) (C : Nat) (v : Value) (m : Nat) (xs : List Value), OwnM w base t C v m xs → 61 ≠ t → OwnM (w.setCell ⟨g, k * 2 + 1, none⟩ (.slice A2 s.as_.length c2)) base t C v m xs := fun t C v m xs hx hT =>
    OwnM.setCell hx (p := ⟨g, k * 2 + 1, none⟩) (fun q hq e => own_ne hx h.own (fun e => hT e.symm) q hq (by rw [e]; rfl)) _
  refine ⟨by rw [List.length_set]; exact h.len, ?_, ?_, fun j x h1 h2 => ?_, fun j h1 => ?_⟩
  · unfold OwnL
    rw [List.length_set, h.len, flat_set Sg.cs_len segs k s 1 (.slice A2 s.as_.length c2) _ hs (by decide) rfl]
    have h2 := h.own
    unfold OwnL at h2
    rw [h.len] at h2
    exact OwnM.setIn h2 _ (by omega)
  · rw [List.map_set, ← h.con]
    apply List.ext_getElem?
    intro j
    rw [List.getElem?_set]
    split
    · rename_i e
      subst e
      rw [List.getElem?_map, hs]
      have : k < (segs.map Sg.c).length := by rw [List.length_map, h.len]; exact hk
      simp
      exact ⟨by rw [h.len]; exact hk, rfl⟩
    · rfl
  · rw [List.getElem?_set] at h2
    split at h2
    · split at h2
      · cases h2
        exact hne _ _ _ _ _ ho (by decide)
      · cases h2
    · rename_i e
      exact hne _ _ _ _ _ (h.done j x (by omega) h2) (by decide)
  · rw [List.getElem?_set_ne (by omega)]
    exact h.left j (by omega)
end Go.Proofs.YtkcojblflebomaaGreat
set_option linter.unusedVariables false
set_option linter.unusedSimpArgs false
namespace Go.Proofs.YtkcojblflebomaaGreat
open Go.RowKit

/-- of neighbours alike one -/
def dd {α : Type} [DecidableEq α] : List α → List α
  | a :: b :: r => if a = b then dd (b :: r) else a :: dd (b :: r)
  | l => l
theorem dd_head {α : Type} [DecidableEq α] : ∀ (b : α) (r : List α), ∃ t, dd (b :: r) = b :: t
  | b, [] => ⟨[], rfl⟩
  | b, a :: r => by
    obtain ⟨t, ht⟩ := dd_head a r
    unfold dd
    split
    · rename_i e
      exact ⟨t, by rw [ht, e]⟩
    · exact ⟨_, rfl⟩
theorem dd_snoc {α : Type} [DecidableEq α] : ∀ (l : List α) (b a : α), dd (l ++ [b, a]) = if a = b then dd (l ++ [b]) else dd (l ++ [b]) ++ [a]
  | [], b, a => by
    show (if b = a then [a] else b :: [a]) = _
    by_cases h : a = b
    · rw [if_pos h.symm, if_pos h, h]; rfl
    · rw [if_neg (fun e => h e.symm), if_neg h]; rfl
  | [x], b, a => by
    have ih := dd_snoc [] b a
    show (if x = b then dd ([] ++ [b, a]) else x :: dd ([] ++ [b, a])) = if a = b then (if x = b then dd ([] ++ [b]) else x :: dd ([] ++ [b])) else (if x = b then dd ([] ++ [b]) else x :: dd ([] ++ [b])) ++ [a]
    rw [ih]
    split <;> split <;> rfl
  | x :: y :: r, b, a => by
    have ih := dd_snoc (y :: r) b a
    show (if x = y then dd ((y :: r) ++ [b, a]) else x :: dd ((y :: r) ++ [b, a])) = if a = b then (if x = y then dd ((y :: r) ++ [b]) else x :: dd ((y :: r) ++ [b])) else (if x = y then dd ((y :: r) ++ [b]) else x :: dd ((y :: r) ++ [b])) ++ [a]
    rw [ih]
    split <;> split <;> rfl
theorem dd_len {α : Type} [DecidableEq α] : ∀ l : List α, (dd l).length ≤ l.length
  | [] => Nat.le_refl _
  | [a] => Nat.le_refl _
  | a :: b :: r => by
    have ih := dd_len (b :: r)
    unfold dd
    split
    · rw [List.length_cons]; omega
    · rw [List.length_cons, List.length_cons]; omega
theorem dd_mem {α : Type} [DecidableEq α] {x : α} : ∀ l : List α, x ∈ dd l ↔ x ∈ l
  | [] => Iff.rfl
  | [a] => Iff.rfl
  | a :: b :: r => by
    have ih := dd_mem (x := x) (b :: r)
    unfold dd
    split
    · rename_i e
      subst e
      rw [ih]
      simp
    · rw [List.mem_cons, ih, List.mem_cons (a := x) (b := a)]
/-- in order: it rises, each once -/
theorem dd_rise {α : Type} [DecidableEq α] (lt : α → α → Bool) (ht : ∀ a b, lt b a = false → a = b ∨ lt a b = true) : ∀ l : List α, (∀ i a b, l[i]? = some a → l[i + 1]? = some b → lt b a = false) → riseB lt (dd l) = true
  | [], _ => rfl
  | [a], _ => rfl
  | a :: b :: r, h => by
    have ih := dd_rise lt ht (b :: r) (fun i x y hx hy => h (i + 1) x y (by simpa using hx) (by simpa using hy))
    unfold dd
    split
    · exact ih
    · rename_i e
      obtain ⟨t, h2⟩ := dd_head b r
      rw [h2] at ih ⊢
      rw [riseB, Bool.and_eq_true]
      refine ⟨?_, ih⟩
      rcases ht a b (h 0 a b rfl rfl) with h3 | h3
      · exact absurd h3 e
      · exact h3
theorem ltN_total (a b : Nat) (h : ltN b a = false) : a = b ∨ ltN a b = true := by
  unfold ltN at *
  simp at *
  omega
theorem ltN_irrefl (a : Nat) : ltN a a = false := by
  unfold ltN
  simp
end Go.Proofs.YtkcojblflebomaaGreat
