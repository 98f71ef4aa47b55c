/-
  Boxes of paths: made, laid anew, kept. Conditions: none.
-/
import Derived.Test.YtoamigfjpcniaaaDmB
import Derived.Test.YtoamigfjpcniaaaDeX
import Derived.Test.YtoamigfjpcniaaaDlF
set_option linter.unusedVariables false
set_option linter.unusedSimpArgs false
namespace Go.Proofs.Ytoamigfjpcniaaa
open Go.RowKit Go.MapKept Go.Shelf
open Go.Lib hiding intOf

/-- a path whose slices lie below a floor -/
def PtIn (V : World) (c : Nat) (P : Pt) : Prop := ∃ U, PtOk U P ∧ U.heap.size ≤ c ∧ Below c U V
theorem PtIn.ok {V : World} {c : Nat} {P : Pt} (h : PtIn V c P) : PtOk V P := by
  obtain ⟨U, h1, h2, h3⟩ := h
  exact h1.below h3 h2
theorem PtIn.new {V : World} {P : Pt} (h : PtOk V P) : PtIn V V.heap.size P := ⟨V, h, Nat.le_refl _, Below.refl _ _⟩
theorem PtIn.grow {V V' : World} {c d : Nat} {P : Pt} (h : PtIn V c P) (hb : Below d V V') (hd : c ≤ d) : PtIn V' c P := by
  obtain ⟨U, h1, h2, h3⟩ := h
  exact ⟨U, h1, h2, h3.trans (hb.mono hd)⟩
theorem PtIn.map {V : World} {c : Nat} {P P' : Pt} (h : PtIn V c P) (hm : ∀ U, PtOk U P → PtOk U P') : PtIn V c P' := by
  obtain ⟨U, h1, h2, h3⟩ := h
  exact ⟨U, hm U h1, h2, h3⟩
structure Box (V : World) (c b : Nat) (P : Pt) : Prop where
  cells : CellsAt V b P.cs 38
  pin : PtIn V c P
  le : c ≤ b
theorem Box.lt {V : World} {c b : Nat} {P : Pt} (h : Box V c b P) : b < V.heap.size := h.cells.lt
theorem Box.ok {V : World} {c b : Nat} {P : Pt} (h : Box V c b P) : PtOk V P := h.pin.ok
theorem Box.grow {V V' : World} {c b d : Nat} {P : Pt} (h : Box V c b P) (hb : Below d V V') (hd : b < d) : Box V' c b P := ⟨h.cells.below hb hd, h.pin.grow hb (by have := h.le; omega), h.le⟩
theorem Box.grow' {V V' : World} {c b : Nat} {P : Pt} (h : Box V c b P) (hb : Below V.heap.size V V') : Box V' c b P := h.grow hb h.lt
theorem Box.kept {V V' : World} {c b d : Nat} {P : Pt} (h : Box V c b P) (hk : ∀ k, k ≠ d → V'.heap[k]? = V.heap[k]?) (hb : Below d V V') (h1 : c ≤ d) (h2 : b ≠ d) : Box V' c b P := ⟨(hk b h2).trans h.cells, h.pin.grow hb h1, h.le⟩
theorem Box.set {V V' : World} {c b : Nat} {P P' : Pt} (h : Box V c b P) (hc : CellsAt V' b P'.cs 38) (hb : Below b V V') (hm : ∀ U, PtOk U P → PtOk U P') : Box V' c b P' := ⟨hc, (h.pin.grow hb h.le).map hm, h.le⟩
theorem below_step {V V' : World} {o : Obj} (h : Below (V.alloc o).heap.size (V.alloc o) V') : Below V.heap.size V V' := ((Below.refl _ _).alloc (Nat.le_refl _) _).trans (h.mono (by simp))
theorem ThreeAt.below {w w' : World} {b : Nat} {p1 p2 p3 : Pt} (h : ThreeAt w b p1 p2 p3) (hb : Below w.heap.size w w') : ThreeAt w' b p1 p2 p3 := ⟨h.1.below hb h.1.lt, h.2.1.below hb, h.2.2.1.below hb, h.2.2.2.below hb⟩
theorem ThreeAt.range0 {w : World} {b : Nat} {p1 p2 p3 : Pt} (h : ThreeAt w b p1 p2 p3) : w.rangeAt b 0 (medP p1 5).cs.toList := by
  obtain ⟨b2, off, hA, hb, hr⟩ := PsAt.at_ (i := 0) h.ps rfl
  simp only [Option.some.injEq, Addr.mk.injEq, and_true] at hA
  obtain ⟨rfl, rfl⟩ := hA
  exact hr
theorem ThreeAt.range2 {w : World} {b : Nat} {p1 p2 p3 : Pt} (h : ThreeAt w b p1 p2 p3) : w.rangeAt b 58 (medP p3 9).cs.toList := by
  obtain ⟨b2, off, hA, hb, hr⟩ := PsAt.at_ (i := 2) h.ps rfl
  simp only [Option.some.injEq, Addr.mk.injEq, and_true] at hA
  obtain ⟨rfl, rfl⟩ := hA
  exact hr
theorem ps_none (w : World) : PsAt w none 0 [] := ⟨fun hl => absurd hl (by simp), Nat.le_refl _, Nat.zero_le _, fun p hp => by cases hp⟩
theorem two_ok {w : World} {p q : Pt} (hp : PtOk w p) (hq : PtOk w q) : ∀ x ∈ [p, q], PtOk w x := fun x hx => by
  simp only [List.mem_cons, List.not_mem_nil, or_false] at hx
  rcases hx with rfl | rfl
  · exact hp
  · exact hq
theorem pref0_ok {w : World} {p : Pt} (h : PtOk w p) : PtOk w (pref0 p) := ⟨h.rd, h.segs, h.len, h.cap, h.clen, h.ccap, h.peer, h.addr, h.crd, h.one1, h.one2, h.one3⟩
theorem orig0_ok {w : World} {p : Pt} (h : PtOk w p) : PtOk w (orig0 p) := ⟨h.rd, h.segs, h.len, h.cap, h.clen, h.ccap, h.peer, h.addr, h.crd, h.one1, h.one2, h.one3⟩
theorem OneP.two {w v : World} {peer : ByteArray} {id : Int} {l : List Nat} {p : Pt} (h : OneP w peer id l p) (hv : PtOk v p) : OneP v peer id l p := by
  obtain ⟨A, B, c, d, e, _⟩ := h
  exact ⟨A, B, c, d, e, hv⟩
theorem kn_sa : someF 2 [1, 0, 2] = [1, 0] := by decide
theorem kn_sb : someF 0 [1, 0, 2] = [] := by decide
theorem kn_sc : someF (-1) [1, 0, 2] = [] := by decide
theorem kn_sd : someF 9 [1, 0, 2] = [1, 0, 2] := by decide
section
variable {ops : Array Oper} {rest : List Oper} {op : Oper} {a : Act} {Q : Exit → Act → World → Prop}
/-- a path is laid into the box that was just made -/
theorem wpList_box_new {W : World} {Z : Array Value} (hgd : op.guard = none) (p q : Operand) (ho : op.op = .store 38 p q) (hx : a.eval p = .pointer (some ⟨W.heap.size, 0, none⟩)) (P : Pt) (hy : a.eval q = .agg P.cs)
    (hZ : Z.size = 29) (hok : Hid (PtOk W P))
    (h : ∀ V, Hid (Box V W.heap.size W.heap.size P) → Hid (Below W.heap.size W V) → wpList Try.prog ops Q rest (a.put op.dst undef) V) : wpList Try.prog ops Q (op :: rest) a (W.alloc (.cells Z 38)) :=
  wpList_store_path hgd p q ho hx P hy hZ hok.out.pones (h _ ⟨CellsAt.new _ _ _, (PtIn.new hok.out).grow ((Below.refl _ _).alloc (Nat.le_refl _) _) (Nat.le_refl _), Nat.le_refl _⟩ ((Below.refl _ _).alloc (Nat.le_refl _) _))
/-- a path is laid over what a box held -/
theorem wpList_box_over {W : World} {old : Array Value} {b : Nat} (hgd : op.guard = none) (p q : Operand) (ho : op.op = .store 38 p q) (hx : a.eval p = .pointer (some ⟨b, 0, none⟩)) (P : Pt) (hy : a.eval q = .agg P.cs)
    (hold : old.size = 29) (hg : Hid (CellsAt W b old 38)) (hok : Hid (∀ u ∈ P.cs.toList, u.oneCell' = true))
    (h : ∀ V, Hid (CellsAt V b P.cs 38) → Hid (∀ k, k ≠ b → V.heap[k]? = W.heap[k]?) → Hid (Below b W V) → wpList Try.prog ops Q rest (a.put op.dst undef) V) : wpList Try.prog ops Q (op :: rest) a W :=
  wpList_over_path hgd p q ho hx P hy hold hg.out hok.out (h _ (setRow_heap _ _ _ _ _ _ hg.out) (fun k hk => setRow_other _ _ _ _ hk) (Go.below_setRow (Below.refl _ _) (Nat.le_refl _) _))
/-- a cell of a block is laid -/
theorem wpList_cell_set {V : World} {b : Nat} {cs : Array Value} {T : TypeId} (hgd : op.guard = none) (ty : TypeId) (p q : Operand) (ho : op.op = .store ty p q) (i : Nat) (hx : a.eval p = .pointer (some ⟨b, i, none⟩)) (v : Value) (hy : a.eval q = v) (hi : (Try.prog.info? ty).map (·.size) = some 1)
    (hM : Hid (CellsAt V b cs T)) (cs' : Array Value) (e : Hid (cs.setIfInBounds i v = cs')) (hi2 : Hid (i < cs.size)) (h1 : v.oneCell' = true)
    (h : ∀ V', Hid (CellsAt V' b cs' T) → Hid (∀ k, k ≠ b → V'.heap[k]? = V.heap[k]?) → Hid (Below b V V') → wpList Try.prog ops Q rest (a.put op.dst undef) V') : wpList Try.prog ops Q (op :: rest) a V :=
  wpList_plain hgd fun _ hK => by
    have ht : V.there b i 1 := fun j hj => by
      obtain rfl : j = 0 := by omega
      exact ⟨by rw [Nat.add_zero, hM.out.c i, Array.getElem?_eq_getElem hi2.out]; rfl, hM.out.frozen _⟩
    have hb : Below b V (V.setCell ⟨b, i, none⟩ v) := below_setCell (q := ⟨b, i, none⟩) (Below.refl b V) (Nat.le_refl b) v
    unfold Oper.wp execOp
    simp only [ho, hx, hy, run_storeAt_one (P := Try.prog) V b i ty v ht hi h1, Sem.run_bind, Sem.run_pure, Result.andThen_ok]
    exact hK _ _ (h _ ((hM.out.setc i v).cast e.out) (fun k hk => Below.heap_setCell V ⟨b, i, none⟩ v k hk) hb)
/-- a configuration is laid into the block that was just made -/
theorem wpList_cfg_new {W : World} {Z : Array Value} (hgd : op.guard = none) (x y : Operand) (ho : op.op = .store 68 x y) (hx : a.eval x = .pointer (some ⟨W.heap.size, 0, none⟩)) (p q r s : Int) (hy : a.eval y = .agg (cfgC p q r s))
    (hZ : Z.size = 13) (h : ∀ V, Hid (CellsAt V W.heap.size (cfgC p q r s) 68) → Hid (Below W.heap.size W V) → wpList Try.prog ops Q rest (a.put op.dst undef) V) : wpList Try.prog ops Q (op :: rest) a (W.alloc (.cells Z 68)) :=
  wpList_store_cfg _ rfl hgd x y ho hx p q r s hy hZ (h _ (CellsAt.new _ _ _) ((Below.refl _ _).alloc (Nat.le_refl _) _))
theorem wpList_load_cfg_g {w : World} (hw : Region.wanted op (yielded ops a.tmps) = true) (src : Operand) (ho : op.op = .load 68 src) (b : Nat) (hx : a.eval src = .pointer (some ⟨b, 0, none⟩)) (p q r s : Int) (hc : Hid (CellsAt w b (cfgC p q r s) 68))
    (h : wpList Try.prog ops Q rest (a.put op.dst (.agg (cfgC p q r s))) w) : wpList Try.prog ops Q (op :: rest) a w := by
  obtain ⟨fs, hu⟩ := cfg_under
  refine wpList_step fun K hK => ?_
  rw [if_pos hw]
  exact wp_load_mid 68 src ho b 0 hx (cfgC p q r s).toList _ hc.out.range hu rfl (by rw [cfg_size]; rfl) (hK _ _ h)
end
/-- a slice literal of paths in a drawn region -/
theorem wp_build_paths {ops : Array Oper} {o : Oper} {a : Act} {w : World} {K : Act → World → Prop} {Q : Exit → Act → World → Prop} {n : Nat} {parts : Array (Nat × Operand)} (hw : Region.wanted o (yielded ops a.tmps) = true) (ho : o.op = .buildSlice 23 n parts) (ps : List Pt)
    (hv : (parts.map fun (i, x) => (i, a.eval x)).toList = ((ps.map fun p => Value.agg p.cs).zipIdx 0).map fun x => (x.2, x.1)) (hn : ps.length = n) (h0 : 0 < n) (hs : n ≤ 1000)
    (h : K (a.put o.dst (.slice (some ⟨w.heap.size, 0, none⟩) n n)) (w.alloc (.cells (rows ps) 38))) : if Region.wanted o (yielded ops a.tmps) = true then Oper.wp Try.prog o a w K Q else K (a.put o.dst undef) w := by
  rw [if_pos hw]
  obtain ⟨i0, z0, hi, hz0, hz1, hz2, hz3⟩ := infoPt
  have e : ((ps.map fun p => Value.agg p.cs).flatMap fun v => v.cells.toList).toArray = rows ps := by
    unfold rows
    rw [List.flatMap_map]
    rfl
  rw [← e] at h
  have hz : i0.size = 29 := hz1
  refine wp_buildSlice 23 38 n parts ho _ i0 z0 Try.underlying23 hi hz0 (by rw [hz]; omega) (by rw [hz]; omega) ?_ h
  rw [hv, hz]
  refine Great.fill_whole (s := 29) (by decide) (ps.map fun p => Value.agg p.cs) _ (fun v hv => ?_) ?_
  · obtain ⟨p, _, rfl⟩ := List.mem_map.1 hv
    rfl
  · rw [List.length_map, hn, Array.size_map, Array.size_range]
end Go.Proofs.Ytoamigfjpcniaaa
