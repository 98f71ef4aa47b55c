/-
  Paths and entries as rows of cells; what is read of one. Conditions: none of its own.
-/
import Derived.Test.YtoamigfjpcniaaaMapsR
import Derived.Test.YtoamigfjpcniaaaOpenAny
import Derived.Test.YtoamigfjpcniaaaShelf
set_option linter.unusedVariables false
set_option linter.unusedSimpArgs false
namespace Go.Proofs.Ytoamigfjpcniaaa
open Go.RowKit Go.MapKept Go.Shelf Go.Lib

/-- a block's cells, later -/
def CellsAt (w : World) (b : Nat) (cs : Array Value) (T : TypeId) : Prop := w.heap[b]? = some (.cells cs T (0, 0))
section
variable {w w' : World} {b : Nat} {cs : Array Value} {T : TypeId}
theorem CellsAt.lt (h : CellsAt w b cs T) : b < w.heap.size := (Array.getElem?_eq_some_iff.1 h).1
theorem CellsAt.new (w : World) (cs : Array Value) (T : TypeId) : CellsAt (w.alloc (.cells cs T)) w.heap.size cs T := heap_alloc_new w _
theorem CellsAt.below {B : Nat} (h : CellsAt w b cs T) (hg : Below B w w') (hb : b < B) : CellsAt w' b cs T := (hg.block b hb).trans h
theorem CellsAt.alloc (h : CellsAt w b cs T) (o : Obj) : CellsAt (w.alloc o) b cs T :=
  h.below ((Below.refl w.heap.size w).alloc (Nat.le_refl _) o) h.lt
theorem CellsAt.drew (h : CellsAt w b cs T) (n : Nat) : CellsAt (w.drewN n) b cs T := h
theorem CellsAt.row {m : Nat} (h : CellsAt w b cs T) (hg : w.grownBy w' (some m)) (hb : b ≠ m) : CellsAt w' b cs T := (hg.block b h.lt (fun e => hb (by injection e))).trans h
theorem CellsAt.own {row : Option Nat} (h : CellsAt w b cs T) (hg : w.grownBy w' row) (hb : some b ≠ row) : CellsAt w' b cs T := (hg.block b h.lt hb).trans h
theorem CellsAt.grownX {X : Nat → Prop} (h : CellsAt w b cs T) (hg : GrownX X w w') (hb : ¬ X b) : CellsAt w' b cs T := (hg.block b h.lt hb).trans h
theorem CellsAt.c (h : CellsAt w b cs T) (i : Nat) : w.cell? ⟨b, i, none⟩ = cs[i]? := cell_of_row w b i _ _ _ h
theorem CellsAt.c1 {x : Value} (h : CellsAt w b #[x] T) : w.cell? ⟨b, 0, none⟩ = some x := (h.c 0).trans rfl
theorem CellsAt.c2 {x y : Value} (h : CellsAt w b #[x, y] T) : w.cell? ⟨b, 0, none⟩ = some x ∧ w.cell? ⟨b, 1, none⟩ = some y := ⟨(h.c 0).trans rfl, (h.c 1).trans rfl⟩
theorem CellsAt.c3 {x y z : Value} (h : CellsAt w b #[x, y, z] T) : w.cell? ⟨b, 0, none⟩ = some x ∧ w.cell? ⟨b, 1, none⟩ = some y ∧ w.cell? ⟨b, 2, none⟩ = some z :=
  ⟨(h.c 0).trans rfl, (h.c 1).trans rfl, (h.c 2).trans rfl⟩
theorem CellsAt.c4 {x y z u : Value} (h : CellsAt w b #[x, y, z, u] T) : w.cell? ⟨b, 0, none⟩ = some x ∧ w.cell? ⟨b, 1, none⟩ = some y ∧ w.cell? ⟨b, 2, none⟩ = some z ∧ w.cell? ⟨b, 3, none⟩ = some u :=
  ⟨(h.c 0).trans rfl, (h.c 1).trans rfl, (h.c 2).trans rfl, (h.c 3).trans rfl⟩
theorem CellsAt.c5 {x y z u v : Value} (h : CellsAt w b #[x, y, z, u, v] T) : w.cell? ⟨b, 0, none⟩ = some x ∧ w.cell? ⟨b, 1, none⟩ = some y ∧ w.cell? ⟨b, 2, none⟩ = some z ∧ w.cell? ⟨b, 3, none⟩ = some u ∧ w.cell? ⟨b, 4, none⟩ = some v :=
  ⟨(h.c 0).trans rfl, (h.c 1).trans rfl, (h.c 2).trans rfl, (h.c 3).trans rfl, (h.c 4).trans rfl⟩
end


/-- a slice that is read: its elements' cells, row behind row -/
def Rd (w : World) (A : Option Addr) (C : Nat) (xs : List (List Value)) : Prop :=
  0 < xs.length → ∃ b off, A = some ⟨b, off, none⟩ ∧ b < w.heap.size ∧ ∀ (i : Nat) cs, xs[i]? = some cs → ∀ (j : Nat) u, cs[j]? = some u → w.cell? ⟨b, off + i * C + j, none⟩ = some u
theorem Rd.below {w w' : World} {A : Option Addr} {C : Nat} {xs : List (List Value)} {B : Nat} (h : Rd w A C xs) (hb : Below B w w') (hB : w.heap.size ≤ B) : Rd w' A C xs := fun hl => by
  obtain ⟨b, off, rfl, hlt, hc⟩ := h hl
  exact ⟨b, off, rfl, Nat.lt_of_lt_of_le hlt hb.size, fun i cs hi j u hu => (hb.cell (p := ⟨b, _, none⟩) (Nat.lt_of_lt_of_le hlt hB)).trans (hc i cs hi j u hu)⟩
theorem Rd.at_ {w : World} {A : Option Addr} {C i : Nat} {xs : List (List Value)} {cs : List Value} (h : Rd w A C xs) (hi : xs[i]? = some cs) :
    ∃ b off, A = some ⟨b, off, none⟩ ∧ b < w.heap.size ∧ ∀ (j : Nat) u, cs[j]? = some u → w.cell? ⟨b, off + i * C + j, none⟩ = some u := by
  obtain ⟨b, off, rfl, hlt, hc⟩ := h (by have := (List.getElem?_eq_some_iff.1 hi).1; omega)
  exact ⟨b, off, rfl, hlt, hc i cs hi⟩

/-- a segment of an AS path -/
structure Sg where
  kind : Int
  A : Option Addr
  as_ : List Nat
  cap : Nat
def Sg.cs (s : Sg) : List Value := [.int .i64 s.kind, .slice s.A s.as_.length s.cap]
structure SgOk (w : World) (s : Sg) : Prop where
  rd : Rd w s.A 1 (s.as_.map fun n => [.int .u32 (n : Nat)])
  len : s.as_.length ≤ s.cap
  cap : s.cap ≤ maxLen
  fits : ∀ n ∈ s.as_, n < 4294967296
/-- a path -/
structure Pt where
  pfam : Int
  prd : Int
  paddr : ByteArray
  plen : Int
  id : Int
  label : Int
  origin : Int
  pA : Option Addr
  segs : List Sg
  pC : Nat
  next : ByteArray
  hasMed : Bool
  med : Int
  hasPref : Bool
  pref : Int
  atomic : Bool
  aggAs : Int
  aggId : Int
  comms : Value
  exts : Value
  larges : Value
  hasOrig : Bool
  orig : Int
  cA : Option Addr
  clus : List Nat
  cC : Nat
  kind : Int
  peer : ByteArray
  as_ : Int
  sid : Int
  addr : ByteArray
  vrf : ByteArray
  stale : Bool
def Pt.v (p : Pt) : Value := .agg #[.int .i64 p.pfam, .int .u64 p.prd, .string p.paddr, .int .i64 p.plen, .int .u32 p.id, .int .u32 p.label, .int .i64 p.origin, (.slice p.pA p.segs.length p.pC), .string p.next, .bool p.hasMed, .int .u32 p.med, .bool p.hasPref, .int .u32 p.pref, .bool p.atomic, .int .u32 p.aggAs, .int .u32 p.aggId, p.comms, p.exts, p.larges, .bool p.hasOrig, .int .u32 p.orig, (.slice p.cA p.clus.length p.cC), .int .i64 p.kind, .string p.peer, .int .u32 p.as_, .int .u32 p.sid, .string p.addr, .string p.vrf, .bool p.stale]
/-- an entry -/
structure En where
  p : Pt
  at_ : Nat
  cost : Int
def En.v (x : En) : Value := .agg #[.int .i64 x.p.pfam, .int .u64 x.p.prd, .string x.p.paddr, .int .i64 x.p.plen, .int .u32 x.p.id, .int .u32 x.p.label, .int .i64 x.p.origin, (.slice x.p.pA x.p.segs.length x.p.pC), .string x.p.next, .bool x.p.hasMed, .int .u32 x.p.med, .bool x.p.hasPref, .int .u32 x.p.pref, .bool x.p.atomic, .int .u32 x.p.aggAs, .int .u32 x.p.aggId, x.p.comms, x.p.exts, x.p.larges, .bool x.p.hasOrig, .int .u32 x.p.orig, (.slice x.p.cA x.p.clus.length x.p.cC), .int .i64 x.p.kind, .string x.p.peer, .int .u32 x.p.as_, .int .u32 x.p.sid, .string x.p.addr, .string x.p.vrf, .bool x.p.stale, .int .i64 x.at_, .int .i64 x.cost]
structure PtOk (w : World) (p : Pt) : Prop where
  rd : Rd w p.pA 2 (p.segs.map Sg.cs)
  segs : ∀ s ∈ p.segs, SgOk w s
  len : p.segs.length ≤ p.pC
  cap : p.pC ≤ maxLen
  clen : p.clus.length ≤ p.cC
  ccap : p.cC ≤ maxLen
  peer : p.peer.size ≤ 9223372036854775807
  addr : p.addr.size ≤ 9223372036854775807
  crd : Rd w p.cA 1 (p.clus.map fun n => [.int .u32 (n : Nat)])
  one1 : p.comms.oneCell' = true
  one2 : p.exts.oneCell' = true
  one3 : p.larges.oneCell' = true
theorem SgOk.below {w w' : World} {s : Sg} {B : Nat} (h : SgOk w s) (hb : Below B w w') (hB : w.heap.size ≤ B) : SgOk w' s := ⟨h.rd.below hb hB, h.len, h.cap, h.fits⟩
theorem PtOk.below {w w' : World} {p : Pt} {B : Nat} (h : PtOk w p) (hb : Below B w w') (hB : w.heap.size ≤ B) : PtOk w' p :=
  ⟨h.rd.below hb hB, fun s hs => (h.segs s hs).below hb hB, h.len, h.cap, h.clen, h.ccap, h.peer, h.addr, h.crd.below hb hB, h.one1, h.one2, h.one3⟩

/-- a path's degree -/
def degF (p : Pt) : Int := if p.hasPref = true then p.pref else 100
theorem degree_any (p : Pt) (w : World) : Calls Try.prog 16 #[p.v] w fun e w' => e = .returned (.int .u32 (degF p)) ∧ Below w.heap.size w w' := by
  have HA := Lib.hid (fun cs => Below.alloc (Below.refl w.heap.size w) (Nat.le_refl _) (.cells cs 38))
  unfold Pt.v degF
  by_cases h : p.hasPref = true
  · rw [h, if_pos rfl]
    go_enter Try.func16, Try.ntmps16
    go_wp2_with fail
    go_ret
    exact ⟨rfl, HA.out _⟩
  · have h := Bool.eq_false_iff.2 h
    rw [h, if_neg (by simp)]
    go_enter Try.func16, Try.ntmps16
    go_wp2_with fail
    go_ret
    exact ⟨rfl, HA.out _⟩
end Go.Proofs.Ytoamigfjpcniaaa
