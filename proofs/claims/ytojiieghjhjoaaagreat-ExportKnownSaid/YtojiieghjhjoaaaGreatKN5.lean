/-
  Several texts in one.
-/
import Derived.Test.YtojiieghjhjoaaaGreatKN2
import Derived.Test.YtojiieghjhjoaaaGreatKN4
set_option linter.unusedVariables false
set_option linter.unusedSimpArgs false
namespace Go.Proofs.YtojiieghjhjoaaaGreat
open Go.RowKit Go.MapKept Go.Shelf Go.Lib

/-- a block's cells, later -/
def CellsAt (w : World) (b : Nat) (cs : Array Value) (T : TypeId) : Prop := w.heap[b]? = some (.cells cs T (0, 0))
section
variable {w w' : World} {b : Nat} {cs : Array Value} {T : TypeId}
theorem CellsAt.lt (h : CellsAt w b cs T) : b < w.heap.size := (Array.getElem?_eq_some_iff.1 h).1
theorem CellsAt.new (w : World) (cs : Array Value) (T : TypeId) : CellsAt (w.alloc (.cells cs T)) w.heap.size cs T := heap_alloc_new w _
theorem CellsAt.below {B : Nat} (h : CellsAt w b cs T) (hg : Below B w w') (hb : b < B) : CellsAt w' b cs T := (hg.block b hb).trans h
theorem CellsAt.alloc (h : CellsAt w b cs T) (o : Obj) : CellsAt (w.alloc o) b cs T :=
  h.below ((Below.refl w.heap.size w).alloc (Nat.le_refl _) o) h.lt
theorem CellsAt.drew (h : CellsAt w b cs T) (n : Nat) : CellsAt (w.drewN n) b cs T := h
theorem CellsAt.row {m : Nat} (h : CellsAt w b cs T) (hg : w.grownBy w' (some m)) (hb : b ≠ m) : CellsAt w' b cs T := (hg.block b h.lt (fun e => hb (by injection e))).trans h
theorem CellsAt.own {row : Option Nat} (h : CellsAt w b cs T) (hg : w.grownBy w' row) (hb : some b ≠ row) : CellsAt w' b cs T := (hg.block b h.lt hb).trans h
theorem CellsAt.c (h : CellsAt w b cs T) (i : Nat) : w.cell? ⟨b, i, none⟩ = cs[i]? := cell_of_row w b i _ _ _ h
theorem CellsAt.c1 {x : Value} (h : CellsAt w b #[x] T) : w.cell? ⟨b, 0, none⟩ = some x := (h.c 0).trans rfl
theorem CellsAt.c2 {x y : Value} (h : CellsAt w b #[x, y] T) : w.cell? ⟨b, 0, none⟩ = some x ∧ w.cell? ⟨b, 1, none⟩ = some y := ⟨(h.c 0).trans rfl, (h.c 1).trans rfl⟩
theorem CellsAt.c3 {x y z : Value} (h : CellsAt w b #[x, y, z] T) : w.cell? ⟨b, 0, none⟩ = some x ∧ w.cell? ⟨b, 1, none⟩ = some y ∧ w.cell? ⟨b, 2, none⟩ = some z :=
  ⟨(h.c 0).trans rfl, (h.c 1).trans rfl, (h.c 2).trans rfl⟩
theorem CellsAt.c4 {x y z u : Value} (h : CellsAt w b #[x, y, z, u] T) : w.cell? ⟨b, 0, none⟩ = some x ∧ w.cell? ⟨b, 1, none⟩ = some y ∧ w.cell? ⟨b, 2, none⟩ = some z ∧ w.cell? ⟨b, 3, none⟩ = some u :=
  ⟨(h.c 0).trans rfl, (h.c 1).trans rfl, (h.c 2).trans rfl, (h.c 3).trans rfl⟩
theorem CellsAt.c5 {x y z u v : Value} (h : CellsAt w b #[x, y, z, u, v] T) : w.cell? ⟨b, 0, none⟩ = some x ∧ w.cell? ⟨b, 1, none⟩ = some y ∧ w.cell? ⟨b, 2, none⟩ = some z ∧ w.cell? ⟨b, 3, none⟩ = some u ∧ w.cell? ⟨b, 4, none⟩ = some v :=
  ⟨(h.c 0).trans rfl, (h.c 1).trans rfl, (h.c 2).trans rfl, (h.c 3).trans rfl, (h.c 4).trans rfl⟩
end


/-- a slice that is read: its elements' cells, row behind row -/
def Rd (w : World) (A : Option Addr) (C : Nat) (xs : List (List Value)) : Prop :=
  0 < xs.length → ∃ b off, A = some ⟨b, off, none⟩ ∧ b < w.heap.size ∧ ∀ (i : Nat) cs, xs[i]? = some cs → ∀ (j : Nat) u, cs[j]? = some u → w.cell? ⟨b, off + i * C + j, none⟩ = some u
theorem Rd.below {w w' : World} {A : Option Addr} {C : Nat} {xs : List (List Value)} {B : Nat} (h : Rd w A C xs) (hb : Below B w w') (hB : w.heap.size ≤ B) : Rd w' A C xs := fun hl => by
  obtain ⟨b, off, rfl, hlt, hc⟩ := h hl
  exact ⟨b, off, rfl, Nat.lt_of_lt_of_le hlt hb.size, fun i cs hi j u hu => (hb.cell (p := ⟨b, _, none⟩) (Nat.lt_of_lt_of_le hlt hB)).trans (hc i cs hi j u hu)⟩
theorem Rd.at_ {w : World} {A : Option Addr} {C i : Nat} {xs : List (List Value)} {cs : List Value} (h : Rd w A C xs) (hi : xs[i]? = some cs) :
    ∃ b off, A = some ⟨b, off, none⟩ ∧ b < w.heap.size ∧ ∀ (j : Nat) u, cs[j]? = some u → w.cell? ⟨b, off + i * C + j, none⟩ = some u := by
  obtain ⟨b, off, rfl, hlt, hc⟩ := h (by have := (List.getElem?_eq_some_iff.1 hi).1; omega)
  exact ⟨b, off, rfl, hlt, hc i cs hi⟩

/-- a segment of an AS path -/
structure Sg where
  kind : Int
  A : Option Addr
  as_ : List Nat
  cap : Nat
def Sg.cs (s : Sg) : List Value := [.int .i64 s.kind, .slice s.A s.as_.length s.cap]
structure SgOk (w : World) (s : Sg) : Prop where
  rd : Rd w s.A 1 (s.as_.map fun n => [.int .u32 (n : Nat)])
  len : s.as_.length ≤ s.cap
  cap : s.cap ≤ maxLen
  fits : ∀ n ∈ s.as_, n < 4294967296
  kfit : -9223372036854775808 ≤ s.kind ∧ s.kind ≤ 9223372036854775807
theorem SgOk.below {w w' : World} {s : Sg} {B : Nat} (h : SgOk w s) (hb : Below B w w') (hB : w.heap.size ≤ B) : SgOk w' s := ⟨h.rd.below hb hB, h.len, h.cap, h.fits, h.kfit⟩
/-- numbers as elements -/
def nums (k : IntKind) (l : List Nat) : List (List Value) := l.map fun n => [.int k (n : Nat)]
/-- a large community -/
structure Lg where
  g : Nat
  a : Nat
  b : Nat
def Lg.cs (x : Lg) : List Value := [.int .u32 (x.g : Nat), .int .u32 (x.a : Nat), .int .u32 (x.b : Nat)]
/-- attributes -/
structure Atr where
  origin : Int
  pA : Option Addr
  segs : List Sg
  pC : Nat
  next : ByteArray
  hasMed : Bool
  med : Nat
  hasPref : Bool
  pref : Nat
  atomic : Bool
  aggAs : Nat
  aggId : Nat
  mA : Option Addr
  comms : List Nat
  mC : Nat
  xA : Option Addr
  exts : List Nat
  xC : Nat
  lA : Option Addr
  larges : List Lg
  lC : Nat
  hasOrig : Bool
  orig : Nat
  kA : Option Addr
  clus : List Nat
  kC : Nat
def Atr.cs (a : Atr) : List Value := [.int .i64 a.origin, .slice a.pA a.segs.length a.pC, .string a.next, .bool a.hasMed, .int .u32 (a.med : Nat), .bool a.hasPref, .int .u32 (a.pref : Nat), .bool a.atomic, .int .u32 (a.aggAs : Nat), .int .u32 (a.aggId : Nat), .slice a.mA a.comms.length a.mC, .slice a.xA a.exts.length a.xC, .slice a.lA a.larges.length a.lC, .bool a.hasOrig, .int .u32 (a.orig : Nat), .slice a.kA a.clus.length a.kC]
def Atr.ar (a : Atr) : Array Value := #[.int .i64 a.origin, .slice a.pA a.segs.length a.pC, .string a.next, .bool a.hasMed, .int .u32 (a.med : Nat), .bool a.hasPref, .int .u32 (a.pref : Nat), .bool a.atomic, .int .u32 (a.aggAs : Nat), .int .u32 (a.aggId : Nat), .slice a.mA a.comms.length a.mC, .slice a.xA a.exts.length a.xC, .slice a.lA a.larges.length a.lC, .bool a.hasOrig, .int .u32 (a.orig : Nat), .slice a.kA a.clus.length a.kC]
def Atr.v (a : Atr) : Value := .agg a.ar
structure AtrOk (w : World) (a : Atr) : Prop where
  prd : Rd w a.pA 2 (a.segs.map Sg.cs)
  segs : ∀ s ∈ a.segs, SgOk w s
  plen : a.segs.length ≤ a.pC
  pcap : a.pC ≤ maxLen
  next : a.next.size ≤ 9223372036854775807
  mrd : Rd w a.mA 1 (nums .u32 a.comms)
  mlen : a.comms.length ≤ a.mC
  mcap : a.mC ≤ maxLen
  mfit : ∀ n ∈ a.comms, n < 4294967296
  xrd : Rd w a.xA 1 (nums .u64 a.exts)
  xlen : a.exts.length ≤ a.xC
  xcap : a.xC ≤ maxLen
  xfit : ∀ n ∈ a.exts, n < 18446744073709551616
  lrd : Rd w a.lA 3 (a.larges.map Lg.cs)
  llen : a.larges.length ≤ a.lC
  lcap : a.lC ≤ maxLen
  lfit : ∀ x ∈ a.larges, x.g < 4294967296 ∧ x.a < 4294967296 ∧ x.b < 4294967296
  krd : Rd w a.kA 1 (nums .u32 a.clus)
  klen : a.clus.length ≤ a.kC
  kcap : a.kC ≤ maxLen
  kfit : ∀ n ∈ a.clus, n < 4294967296
  ofit : -9223372036854775808 ≤ a.origin ∧ a.origin ≤ 9223372036854775807
  nfit : a.med < 4294967296 ∧ a.pref < 4294967296 ∧ a.aggAs < 4294967296 ∧ a.aggId < 4294967296 ∧ a.orig < 4294967296
theorem AtrOk.below {w w' : World} {a : Atr} {B : Nat} (h : AtrOk w a) (hb : Below B w w') (hB : w.heap.size ≤ B) : AtrOk w' a :=
  ⟨h.prd.below hb hB, fun s hs => (h.segs s hs).below hb hB, h.plen, h.pcap, h.next, h.mrd.below hb hB, h.mlen, h.mcap, h.mfit, h.xrd.below hb hB, h.xlen, h.xcap, h.xfit, h.lrd.below hb hB, h.llen, h.lcap, h.lfit, h.krd.below hb hB, h.klen, h.kcap, h.kfit, h.ofit, h.nfit⟩
/-- what a segment says -/
def Sg.c (s : Sg) : Int × List Nat := (s.kind, s.as_)
/-- attributes' own words -/
structure AtC where
  origin : Int
  path : List (Int × List Nat)
  next : ByteArray
  hasMed : Bool
  med : Nat
  hasPref : Bool
  pref : Nat
  atomic : Bool
  aggAs : Nat
  aggId : Nat
  comms : List Nat
  exts : List Nat
  larges : List Lg
  hasOrig : Bool
  orig : Nat
  clus : List Nat
def Atr.c (a : Atr) : AtC := ⟨a.origin, a.segs.map Sg.c, a.next, a.hasMed, a.med, a.hasPref, a.pref, a.atomic, a.aggAs, a.aggId, a.comms, a.exts, a.larges, a.hasOrig, a.orig, a.clus⟩
/-- nothing in them takes more memory than there is -/
structure AtrSz (a : AtC) : Prop where
  p : a.path.length * 32 ≤ 140737488351232
  s : ∀ x ∈ a.path, x.2.length * 4 ≤ 140737488351232
  n : a.next.size ≤ 140737488351232
  m : a.comms.length * 4 ≤ 140737488351232
  x : a.exts.length * 8 ≤ 140737488351232
  l : a.larges.length * 12 ≤ 140737488351232
  k : a.clus.length * 4 ≤ 140737488351232
theorem atr_cells {w : World} {b : Nat} {T : TypeId} {a : Atr} (h : CellsAt w b a.ar T) : w.cell? ⟨b, 0, none⟩ = some (.int .i64 a.origin) ∧ w.cell? ⟨b, 1, none⟩ = some (.slice a.pA a.segs.length a.pC) ∧ w.cell? ⟨b, 2, none⟩ = some (.string a.next) ∧ w.cell? ⟨b, 3, none⟩ = some (.bool a.hasMed) ∧ w.cell? ⟨b, 4, none⟩ = some (.int .u32 (a.med : Nat)) ∧ w.cell? ⟨b, 5, none⟩ = some (.bool a.hasPref) ∧ w.cell? ⟨b, 6, none⟩ = some (.int .u32 (a.pref : Nat)) ∧ w.cell? ⟨b, 7, none⟩ = some (.bool a.atomic) ∧ w.cell? ⟨b, 8, none⟩ = some (.int .u32 (a.aggAs : Nat)) ∧ w.cell? ⟨b, 9, none⟩ = some (.int .u32 (a.aggId : Nat)) ∧ w.cell? ⟨b, 10, none⟩ = some (.slice a.mA a.comms.length a.mC) ∧ w.cell? ⟨b, 11, none⟩ = some (.slice a.xA a.exts.length a.xC) ∧ w.cell? ⟨b, 12, none⟩ = some (.slice a.lA a.larges.length a.lC) ∧ w.cell? ⟨b, 13, none⟩ = some (.bool a.hasOrig) ∧ w.cell? ⟨b, 14, none⟩ = some (.int .u32 (a.orig : Nat)) ∧ w.cell? ⟨b, 15, none⟩ = some (.slice a.kA a.clus.length a.kC) :=
  ⟨(h.c 0).trans rfl, (h.c 1).trans rfl, (h.c 2).trans rfl, (h.c 3).trans rfl, (h.c 4).trans rfl, (h.c 5).trans rfl, (h.c 6).trans rfl, (h.c 7).trans rfl, (h.c 8).trans rfl, (h.c 9).trans rfl, (h.c 10).trans rfl, (h.c 11).trans rfl, (h.c 12).trans rfl, (h.c 13).trans rfl, (h.c 14).trans rfl, (h.c 15).trans rfl⟩
end Go.Proofs.YtojiieghjhjoaaaGreat
