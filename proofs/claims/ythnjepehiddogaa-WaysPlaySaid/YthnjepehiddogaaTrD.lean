/-
  Trees of prefixes in memory: each node a block of eight cells. Conditions: none.
-/
import Derived.Test.YthnjepehiddogaaTrC
import Derived.Test.YthnjepehiddogaaMaps
import Derived.Test.YthnjepehiddogaaOpenAny
set_option linter.unusedVariables false
set_option linter.unusedSimpArgs false
namespace Go.Proofs.Ythnjepehiddogaa
open Go.RowKit Go.MapKept Go.Lib

/-- a block's cells, later -/
def CellsAt (w : World) (b : Nat) (cs : Array Value) (T : TypeId) : Prop := w.heap[b]? = some (.cells cs T (0, 0))
section
variable {w w' : World} {b : Nat} {cs : Array Value} {T : TypeId}
theorem CellsAt.lt (h : CellsAt w b cs T) : b < w.heap.size := (Array.getElem?_eq_some_iff.1 h).1
theorem CellsAt.new (w : World) (cs : Array Value) (T : TypeId) : CellsAt (w.alloc (.cells cs T)) w.heap.size cs T := heap_alloc_new w _
theorem CellsAt.below {B : Nat} (h : CellsAt w b cs T) (hg : Below B w w') (hb : b < B) : CellsAt w' b cs T := (hg.block b hb).trans h
theorem CellsAt.alloc (h : CellsAt w b cs T) (o : Obj) : CellsAt (w.alloc o) b cs T :=
  h.below ((Below.refl w.heap.size w).alloc (Nat.le_refl _) o) h.lt
theorem CellsAt.drew (h : CellsAt w b cs T) (n : Nat) : CellsAt (w.drewN n) b cs T := h
theorem CellsAt.row {m : Nat} (h : CellsAt w b cs T) (hg : w.grownBy w' (some m)) (hb : b ≠ m) : CellsAt w' b cs T := (hg.block b h.lt (fun e => hb (by injection e))).trans h
theorem CellsAt.own {row : Option Nat} (h : CellsAt w b cs T) (hg : w.grownBy w' row) (hb : some b ≠ row) : CellsAt w' b cs T := (hg.block b h.lt hb).trans h
theorem CellsAt.grownX {X : Nat → Prop} (h : CellsAt w b cs T) (hg : GrownX X w w') (hb : ¬ X b) : CellsAt w' b cs T := (hg.block b h.lt hb).trans h
theorem CellsAt.c (h : CellsAt w b cs T) (i : Nat) : w.cell? ⟨b, i, none⟩ = cs[i]? := cell_of_row w b i _ _ _ h
theorem CellsAt.setc (h : CellsAt w b cs T) (i : Nat) (u : Value) : CellsAt (w.setCell ⟨b, i, none⟩ u) b (cs.setIfInBounds i u) T := by
  have h2 : w.heap[b]? = some (.cells cs T (0, 0)) := h
  rw [setCell_eq_setRow w b i _ _ _ _ h2]
  exact setRow_heap w b _ _ _ _ h2
theorem CellsAt.frozen (h : CellsAt w b cs T) (i : Nat) : w.frozen? ⟨b, i, none⟩ = false := by
  have h2 : w.heap[b]? = some (.cells cs T (0, 0)) := h
  simp only [World.frozen?, h2]
  exact Bool.and_eq_false_iff.2 (.inr (by simp))
theorem CellsAt.cast {ds : Array Value} (h : CellsAt w b cs T) (e : cs = ds) : CellsAt w b ds T := e ▸ h
theorem CellsAt.c1 {x : Value} (h : CellsAt w b #[x] T) : w.cell? ⟨b, 0, none⟩ = some x := (h.c 0).trans rfl
theorem CellsAt.c8 {x0 x1 x2 x3 x4 x5 x6 x7 : Value} (h : CellsAt w b #[x0, x1, x2, x3, x4, x5, x6, x7] T) : w.cell? ⟨b, 0, none⟩ = some x0 ∧ w.cell? ⟨b, 1, none⟩ = some x1 ∧ w.cell? ⟨b, 2, none⟩ = some x2 ∧ w.cell? ⟨b, 3, none⟩ = some x3 ∧ w.cell? ⟨b, 4, none⟩ = some x4 ∧ w.cell? ⟨b, 5, none⟩ = some x5 ∧ w.cell? ⟨b, 6, none⟩ = some x6 ∧ w.cell? ⟨b, 7, none⟩ = some x7 :=
  ⟨(h.c 0).trans rfl, (h.c 1).trans rfl, (h.c 2).trans rfl, (h.c 3).trans rfl, (h.c 4).trans rfl, (h.c 5).trans rfl, (h.c 6).trans rfl, (h.c 7).trans rfl⟩
end
/-- a prefix's cells -/
def Tp.cs (p : Tp) : List Value := [.int .i64 p.fam, .int .u64 p.rd, .string p.addr, .int .i64 (p.len : Nat)]
def Tp.v (p : Tp) : Value := .agg #[.int .i64 p.fam, .int .u64 p.rd, .string p.addr, .int .i64 (p.len : Nat)]
def nodeC (a : Tp) (has : Bool) (v : Int) (l r : Value) : Array Value := #[.int .i64 a.fam, .int .u64 a.rd, .string a.addr, .int .i64 (a.len : Nat), .bool has, .int .i64 v, l, r]
/-- a tree in memory; S: its blocks -/
def TreeAt (w : World) : List Nat → Value → Tt Int → Prop
  | S, q, .nil => S = [] ∧ q = .pointer none
  | S, q, .node a has v l r => ∃ b Sl Sr ql qr, S = b :: (Sl ++ Sr) ∧ q = .pointer (some ⟨b, 0, none⟩) ∧ CellsAt w b (nodeC a has v ql qr) 76 ∧ TreeAt w Sl ql l ∧ TreeAt w Sr qr r ∧ S.Nodup
theorem TreeAt.lt {w : World} : ∀ {T : Tt Int} {S : List Nat} {q : Value}, TreeAt w S q T → ∀ x ∈ S, x < w.heap.size
  | .nil, S, q, h, x, hx => by
    obtain ⟨rfl, _⟩ := h
    cases hx
  | .node a has v l r, S, q, h, x, hx => by
    obtain ⟨b, Sl, Sr, ql, qr, rfl, _, hc, hl, hr, _⟩ := h
    rcases List.mem_cons.1 hx with rfl | hx
    · exact hc.lt
    · rcases List.mem_append.1 hx with hx | hx
      · exact hl.lt x hx
      · exact hr.lt x hx
theorem TreeAt.keep {w w' : World} : ∀ {T : Tt Int} {S : List Nat} {q : Value}, TreeAt w S q T → (∀ x ∈ S, w'.heap[x]? = w.heap[x]?) → TreeAt w' S q T
  | .nil, S, q, h, _ => h
  | .node a has v l r, S, q, h, hk => by
    obtain ⟨b, Sl, Sr, ql, qr, rfl, h1, hc, hl, hr, h2⟩ := h
    exact ⟨b, Sl, Sr, ql, qr, rfl, h1, (hk b (List.mem_cons_self ..)).trans hc, hl.keep (fun x hx => hk x (List.mem_cons_of_mem _ (List.mem_append_left _ hx))), hr.keep (fun x hx => hk x (List.mem_cons_of_mem _ (List.mem_append_right _ hx))), h2⟩
theorem TreeAt.grownX {w w' : World} {X : Nat → Prop} {T : Tt Int} {S : List Nat} {q : Value} (h : TreeAt w S q T) (hg : GrownX X w w') (hx : ∀ x ∈ S, ¬ X x) : TreeAt w' S q T := h.keep fun x hs => hg.block x (h.lt x hs) (hx x hs)
theorem TreeAt.below {w w' : World} {B : Nat} {T : Tt Int} {S : List Nat} {q : Value} (h : TreeAt w S q T) (hg : Below B w w') (hx : ∀ x ∈ S, x < B) : TreeAt w' S q T := h.keep fun x hs => hg.block x (hx x hs)
theorem TreeAt.below' {w w' : World} {T : Tt Int} {S : List Nat} {q : Value} (h : TreeAt w S q T) (hg : Below w.heap.size w w') : TreeAt w' S q T := h.below hg h.lt
theorem TreeAt.nodup {w : World} : ∀ {T : Tt Int} {S : List Nat} {q : Value}, TreeAt w S q T → S.Nodup
  | .nil, S, q, h => by
    obtain ⟨rfl, _⟩ := h
    exact List.nodup_nil
  | .node a has v l r, S, q, h => by
    obtain ⟨b, Sl, Sr, ql, qr, rfl, _, _, _, _, hn⟩ := h
    exact hn
theorem TreeAt.ptr {w : World} {T : Tt Int} {S : List Nat} {q : Value} (h : TreeAt w S q T) : (q = .pointer none ∧ T = .nil) ∨ ∃ b, q = .pointer (some ⟨b, 0, none⟩) := by
  cases T with
  | nil => exact Or.inl ⟨h.2, rfl⟩
  | node a has v l r =>
    obtain ⟨b, Sl, Sr, ql, qr, _, h1, _⟩ := h
    exact Or.inr ⟨b, h1⟩
end Go.Proofs.Ythnjepehiddogaa
