/-
  ExportNotBack walked. Conditions: sizes.
-/
import Derived.Test.YtojiieghjhjoaaaGreatMY53
set_option linter.unusedVariables false
set_option linter.unusedSimpArgs false
namespace Go.Proofs.YtojiieghjhjoaaaGreat
open Go.RowKit Go.MapKept Go.Shelf
open Go.Lib hiding intOf

theorem cfg_ones (g : Cfg) : g.ar.all Value.oneCell' = true := Array.all_eq_true_iff_forall_mem.2 (fun u hu => by
  simp only [Cfg.ar, List.mem_toArray, List.mem_cons, List.not_mem_nil, or_false] at hu
  rcases hu with rfl | rfl | rfl | rfl | rfl | rfl | rfl | rfl | rfl | rfl | rfl | rfl | rfl <;> rfl)
theorem CellsAt.setX {w : World} {b : Nat} {cs : Array Value} {T : TypeId} (h : CellsAt w b cs T) {c i : Nat} (hne : b ≠ c) (u : Value) : CellsAt (w.setCell ⟨c, i, none⟩ u) b cs T := (Below.heap_setCell w _ _ b hne).trans h
section
variable {w V : World} {s : Nat} {g : Cfg} {p : Pth} {t : Pr}
theorem Bu.setT (h : Bu w V s g p t) (i : Nat) (u : Value) (t' : Pr) (ht : t.ar.setIfInBounds i u = t'.ar) : Bu w (V.setCell ⟨s + 1 + 1, i, none⟩ u) s g p t' := by
  have he := h.e
  refine ⟨h.c.setX (by omega) u, h.p.setX (by omega) u, ?_, Below.setCell (p := ⟨s + 1 + 1, i, none⟩) h.b (by show w.heap.size ≤ s + 1 + 1; omega) u, he, by simpa using h.sz⟩
  rw [← ht]
  exact h.t.setAt i u
theorem Bu.setO (h : Bu w V s g p t) {k : Nat} (hk : s + 1 + 1 < k) (i : Nat) (u : Value) : Bu w (V.setCell ⟨k, i, none⟩ u) s g p t := by
  have he := h.e
  exact ⟨h.c.setX (by omega) u, h.p.setX (by omega) u, h.t.setX (by omega) u, Below.setCell (p := ⟨k, i, none⟩) h.b (by show w.heap.size ≤ k; omega) u, he, by simpa using h.sz⟩
end
/-- it came of that neighbour -/
theorem may_back (g : Cfg) (p : Pth) (t : Pr) (h : t.name = p.peer) : mayF g p t = false := by
  unfold mayF
  rw [h, beq_self_eq_true]
  simp
theorem told_back (g : Cfg) (p : Pth) (t : Pr) (h : t.name = p.peer) : toldF g p t = (noC, false) := by
  unfold toldF
  rw [if_pos (may_back g p t h)]
theorem kind_in (g : Cfg) (t : Pr) (h : t.as_ = g.as_) (h2 : t.client = false) : kindOf g t = 4 := by
  unfold kindOf kindF
  rw [if_pos h, h2]
  rfl
theorem kind_cl (g : Cfg) (t : Pr) (h : t.as_ = g.as_) (h2 : t.client = true) : kindOf g t = 5 := by
  unfold kindOf kindF
  rw [if_pos h, h2]
  rfl
theorem may_inner (g : Cfg) (p : Pth) (t : Pr) (hp : p.kind = 4) (h : t.as_ = g.as_) (h2 : t.client = false) : mayF g p t = false := by
  unfold mayF
  rw [kind_in g t h h2, hp]
  simp
theorem may_client (g : Cfg) (p p4 p5 : Pth) (t : Pr) (h4 : p4 = { p with kind := 4 }) (h5 : p5 = { p with kind := 5 }) (h : t.as_ = g.as_) (h2 : t.client = true) : mayF g p5 t = mayF g p4 t := by
  subst h4 h5
  unfold mayF mayPathF
  rw [kind_cl g t h h2]
  simp
set_option maxRecDepth 100000 in
set_option maxHeartbeats 8000000 in
theorem eq_u64 (A B : Option Addr) (c d : Nat) (xs ys : List Nat) (w : World) (h1 : Rd w A 1 (nums .u64 xs)) (h2 : Rd w B 1 (nums .u64 ys)) (l1 : xs.length ≤ c) (l2 : ys.length ≤ d) (l3 : c ≤ 9223372036854775807) (l4 : d ≤ 9223372036854775807) :
    Calls Tryz.prog 53 #[.slice A xs.length c, .slice B ys.length d] w fun e w' => e = .returned (.bool (decide (xs = ys))) ∧ Below w.heap.size w w' := by
  have H1 := Lib.hid h1
  have H2 := Lib.hid h2
  clear h1 h2
  by_cases hl : xs.length = ys.length
  · generalize hr : decide (xs = ys) = r
    have HR := Lib.hid hr
    clear hr
    have HLE := Lib.hid hl
    generalize hm : ys.length = m at hl l2 ⊢
    subst hl
    clear hm
    have z1 : ((xs.length : Int) != (xs.length : Int)) = false := by simp
    go_enter Tryz.func53, Tryz.ntmps53
    go_wp2_with fail
    go_loopw [13] (fun i wr => ∃ k : Nat, k ≤ xs.length ∧ i = .int .i64 k ∧ Hid (Below w.heap.size w wr) ∧ Hid (∀ j, j < k → xs[j]? = ys[j]?)) (fun i _ => xs.length + 1 - (intOf i).toNat)
    case atStart => exact ⟨0, by omega, rfl, Below.refl _ _, fun j hj => by omega⟩
    case round =>
      obtain ⟨k, hk, rfl, HB, HE⟩ := hrel
      by_cases hlt : k < xs.length
      · obtain ⟨x, hx⟩ : ∃ x, xs[k]? = some x := ⟨xs[k], List.getElem?_eq_getElem hlt⟩
        obtain ⟨y, hy⟩ : ∃ y, ys[k]? = some y := ⟨ys[k]'(by have := HLE.out; omega), List.getElem?_eq_getElem (by have := HLE.out; omega)⟩
        obtain ⟨b1, o1, rfl, hb1, hc1⟩ := num_at (H1.out.below HB.out (Nat.le_refl _)) hx
        obtain ⟨b2, o2, rfl, hb2, hc2⟩ := num_at (H2.out.below HB.out (Nat.le_refl _)) hy
        have HX := Lib.hid hx
        have HY := Lib.hid hy
        clear hx hy
        by_cases hxy : x = y
        · subst hxy
          have hne : ((x : Int) != (x : Int)) = false := by simp
          have he : ((x : Int) == (x : Int)) = true := by simp
          go_wp2_with fail
          go_quiet (fail)
          go_wp2_with fail
          exact ⟨⟨k + 1, by omega, by go_num, below_drewN HB.out _, fun j hj => by
            by_cases e : j = k
            · subst e; exact HX.out.trans HY.out.symm
            · exact HE.out j (by omega)⟩, by simp [intOf]; omega⟩
        · obtain rfl : r = false := by rw [← HR.out]; exact decide_eq_false (list_unlike HX.out HY.out hxy)
          have he : ((x : Int) == (y : Int)) = false := beq_eq_false_iff_ne.2 (by omega)
          have hne : ((x : Int) != (y : Int)) = true := bne_iff_ne.2 (by omega)
          clear hxy
          go_wp2_with fail
          go_quiet (fail)
          go_wp2_with fail
          go_ret
          exact ⟨rfl, below_drewN HB.out _⟩
      · obtain rfl : k = xs.length := by omega
        obtain rfl : r = true := by rw [← HR.out]; exact decide_eq_true (list_alike HLE.out HE.out)
        go_wp2_with fail
        go_ret
        exact ⟨rfl, HB.out⟩
  · have hr : decide (xs = ys) = false := decide_eq_false_iff_not.2 (fun e => hl (by rw [e]))
    rw [hr]
    have hne : ((xs.length : Int) == (ys.length : Int)) = false := by rw [beq_eq_false_iff_ne]; omega
    have hnb : ((xs.length : Int) != (ys.length : Int)) = true := by simp [bne, hne]
    clear hr hl
    go_enter Tryz.func53, Tryz.ntmps53
    go_wp2_with fail
    go_ret
    exact ⟨rfl, Below.refl _ _⟩

set_option maxRecDepth 100000 in
set_option maxHeartbeats 8000000 in
theorem eq_L (A B : Option Addr) (c d : Nat) (xs ys : List Lg) (w : World) (h1 : Rd w A 3 (xs.map Lg.cs)) (h2 : Rd w B 3 (ys.map Lg.cs)) (l1 : xs.length ≤ c) (l2 : ys.length ≤ d) (l3 : c ≤ 9223372036854775807) (l4 : d ≤ 9223372036854775807) :
    Calls Tryz.prog 54 #[.slice A xs.length c, .slice B ys.length d] w fun e w' => e = .returned (.bool (decide (xs = ys))) ∧ Below w.heap.size w w' := by
  have H1 := Lib.hid h1
  have H2 := Lib.hid h2
  clear h1 h2
  by_cases hl : xs.length = ys.length
  · generalize hr : decide (xs = ys) = r
    have HR := Lib.hid hr
    clear hr
    have HLE := Lib.hid hl
    generalize hm : ys.length = m at hl l2 ⊢
    subst hl
    clear hm
    have z1 : ((xs.length : Int) != (xs.length : Int)) = false := by simp
    go_enter Tryz.func54, Tryz.ntmps54
    go_wp2_with fail
    go_loopw [13] (fun i wr => ∃ k : Nat, k ≤ xs.length ∧ i = .int .i64 k ∧ Hid (Below w.heap.size w wr) ∧ Hid (∀ j, j < k → xs[j]? = ys[j]?)) (fun i _ => xs.length + 1 - (intOf i).toNat)
    case atStart => exact ⟨0, by omega, rfl, Below.refl _ _, fun j hj => by omega⟩
    case round =>
      obtain ⟨k, hk, rfl, HB, HE⟩ := hrel
      by_cases hlt : k < xs.length
      · obtain ⟨x, hx⟩ : ∃ x, xs[k]? = some x := ⟨xs[k], List.getElem?_eq_getElem hlt⟩
        obtain ⟨y, hy⟩ : ∃ y, ys[k]? = some y := ⟨ys[k]'(by have := HLE.out; omega), List.getElem?_eq_getElem (by have := HLE.out; omega)⟩
        obtain ⟨b1, o1, rfl, hb1, p0, p1, p2⟩ := lg_at (H1.out.below HB.out (Nat.le_refl _)) hx
        obtain ⟨b2, o2, rfl, hb2, q0, q1, q2⟩ := lg_at (H2.out.below HB.out (Nat.le_refl _)) hy
        have HX := Lib.hid hx
        have HY := Lib.hid hy
        clear hx hy
        by_cases hxy : x = y
        · subst hxy
          have hne0 : ((x.g : Int) != (x.g : Int)) = false := by simp
          have hne1 : ((x.a : Int) != (x.a : Int)) = false := by simp
          have hne2 : ((x.b : Int) != (x.b : Int)) = false := by simp
          have he0 : ((x.g : Int) == (x.g : Int)) = true := by simp
          have he1 : ((x.a : Int) == (x.a : Int)) = true := by simp
          have he2 : ((x.b : Int) == (x.b : Int)) = true := by simp
          go_wp2_with fail
          go_quiet (fail)
          go_wp2_with fail
          exact ⟨⟨k + 1, by omega, by go_num, below_drewN HB.out _, fun j hj => by
            by_cases e : j = k
            · subst e; exact HX.out.trans HY.out.symm
            · exact HE.out j (by omega)⟩, by simp [intOf]; omega⟩
        · obtain rfl : r = false := by rw [← HR.out]; exact decide_eq_false (list_unlike HX.out HY.out hxy)
          have HD : Hid (¬ (x.g = y.g ∧ x.a = y.a ∧ x.b = y.b)) := fun e => hxy (Lg.eq_iff.1 e)
          clear hxy
          by_cases d0 : x.g = y.g
          · have he0 : ((x.g : Int) == (y.g : Int)) = true := by simp [d0]
            by_cases d1 : x.a = y.a
            · have he1 : ((x.a : Int) == (y.a : Int)) = true := by simp [d1]
              have d2 : ¬ x.b = y.b := fun e => HD.out ⟨d0, d1, e⟩
              have he2 : ((x.b : Int) == (y.b : Int)) = false := beq_eq_false_iff_ne.2 (by omega)
              clear d0 d1 d2
              go_wp2_with fail
              go_quiet (fail)
              go_wp2_with fail
              go_ret
              exact ⟨rfl, below_drewN HB.out _⟩
            · have he1 : ((x.a : Int) == (y.a : Int)) = false := beq_eq_false_iff_ne.2 (by omega)
              clear d0 d1
              go_wp2_with fail
              go_quiet (fail)
              go_wp2_with fail
              go_ret
              exact ⟨rfl, below_drewN HB.out _⟩
          · have he0 : ((x.g : Int) == (y.g : Int)) = false := beq_eq_false_iff_ne.2 (by omega)
            clear d0
            go_wp2_with fail
            go_quiet (fail)
            go_wp2_with fail
            go_ret
            exact ⟨rfl, below_drewN HB.out _⟩
      · obtain rfl : k = xs.length := by omega
        obtain rfl : r = true := by rw [← HR.out]; exact decide_eq_true (list_alike HLE.out HE.out)
        go_wp2_with fail
        go_ret
        exact ⟨rfl, HB.out⟩
  · have hr : decide (xs = ys) = false := decide_eq_false_iff_not.2 (fun e => hl (by rw [e]))
    rw [hr]
    have hne : ((xs.length : Int) == (ys.length : Int)) = false := by rw [beq_eq_false_iff_ne]; omega
    have hnb : ((xs.length : Int) != (ys.length : Int)) = true := by simp [bne, hne]
    clear hr hl
    go_enter Tryz.func54, Tryz.ntmps54
    go_wp2_with fail
    go_ret
    exact ⟨rfl, Below.refl _ _⟩


set_option maxRecDepth 100000 in
set_option maxHeartbeats 16000000 in
theorem same_any (a b : Atr) (w : World) (h1 : AtrOk w a) (h2 : AtrOk w b) :
    Calls Tryz.prog 25 #[a.v, b.v] w fun e w' => e = .returned (.bool (decide (a.c = b.c))) ∧ Below w.heap.size w w' := by
  have HB0 : Hid (Below w.heap.size w ((w.alloc (.cells a.ar 33)).alloc (.cells b.ar 33))) := ((Below.refl _ _).alloc (Nat.le_refl _) _).alloc (by simp) _
  have HC0 : Hid (CellsAt ((w.alloc (.cells a.ar 33)).alloc (.cells b.ar 33)) w.heap.size a.ar 33) := (CellsAt.new _ _ _).alloc _
  have HD0 : Hid (CellsAt ((w.alloc (.cells a.ar 33)).alloc (.cells b.ar 33)) (w.heap.size + 1) b.ar 33) := by
    have h := CellsAt.new (w.alloc (.cells a.ar 33)) b.ar 33
    rwa [show (w.alloc (.cells a.ar 33)).heap.size = w.heap.size + 1 by simp] at h
  have HOA0 : Hid (AtrOk ((w.alloc (.cells a.ar 33)).alloc (.cells b.ar 33)) a) := h1.below HB0.out (Nat.le_refl _)
  have HOB0 : Hid (AtrOk ((w.alloc (.cells a.ar 33)).alloc (.cells b.ar 33)) b) := h2.below HB0.out (Nat.le_refl _)
  clear h1 h2
  have HQp : Hid (∀ W, AtrOk W a → AtrOk W b → Calls Tryz.prog 24 #[.slice a.pA a.segs.length a.pC, .slice b.pA b.segs.length b.pC] W fun e w' => e = .returned (.bool (decide (a.segs.map Sg.c = b.segs.map Sg.c))) ∧ Below W.heap.size W w') := fun W h1 h2 => psame_any _ _ _ _ _ _ _ h1.path h2.path
  have HQm : Hid (∀ W, AtrOk W a → AtrOk W b → Calls Tryz.prog 52 #[.slice a.mA a.comms.length a.mC, .slice b.mA b.comms.length b.mC] W fun e w' => e = .returned (.bool (decide (a.comms = b.comms))) ∧ Below W.heap.size W w') := fun W h1 h2 => eq_u32 _ _ _ _ _ _ _ h1.mrd h2.mrd h1.mlen h2.mlen h1.mcap h2.mcap
  have HQx : Hid (∀ W, AtrOk W a → AtrOk W b → Calls Tryz.prog 53 #[.slice a.xA a.exts.length a.xC, .slice b.xA b.exts.length b.xC] W fun e w' => e = .returned (.bool (decide (a.exts = b.exts))) ∧ Below W.heap.size W w') := fun W h1 h2 => eq_u64 _ _ _ _ _ _ _ h1.xrd h2.xrd h1.xlen h2.xlen h1.xcap h2.xcap
  have HQl : Hid (∀ W, AtrOk W a → AtrOk W b → Calls Tryz.prog 54 #[.slice a.lA a.larges.length a.lC, .slice b.lA b.larges.length b.lC] W fun e w' => e = .returned (.bool (decide (a.larges = b.larges))) ∧ Below W.heap.size W w') := fun W h1 h2 => eq_L _ _ _ _ _ _ _ h1.lrd h2.lrd h1.llen h2.llen h1.lcap h2.lcap
  have HQk : Hid (∀ W, AtrOk W a → AtrOk W b → Calls Tryz.prog 52 #[.slice a.kA a.clus.length a.kC, .slice b.kA b.clus.length b.kC] W fun e w' => e = .returned (.bool (decide (a.clus = b.clus))) ∧ Below W.heap.size W w') := fun W h1 h2 => eq_u32 _ _ _ _ _ _ _ h1.krd h2.krd h1.klen h2.klen h1.kcap h2.kcap
  generalize hr : decide (a.c = b.c) = r
  have HR := Lib.hid hr
  clear hr
  unfold Atr.v
  go_enter Tryz.func25, Tryz.ntmps25
  go_upto_region 1 with fail
  generalize (w.alloc (.cells a.ar 33)).alloc (.cells b.ar 33) = W at HB0 HC0 HD0 HOA0 HOB0 ⊢
  have hsW := HB0.out.size
  have hlt := HC0.out.lt
  have hld := HD0.out.lt
  obtain ⟨c0, c1, c2, c3, c4, c5, c6, c7, c8, c9, c10, c11, c12, c13, c14, c15⟩ := atr_cells HC0.out
  obtain ⟨d0, d1, d2, d3, d4, d5, d6, d7, d8, d9, d10, d11, d12, d13, d14, d15⟩ := atr_cells HD0.out
  refine wp_region_eq [{ dst := some 5, op := Op.fieldAddr 33 (Operand.tmp 2) 0, type := 0, pos := "attr.go:43", after := #[], guard := none }, { dst := some 6, op := Op.load 3 (Operand.tmp 5), type := 3, pos := "attr.go:43", after := #[{ on := 0, ground := Ground.data }], guard := none }, { dst := some 7, op := Op.fieldAddr 33 (Operand.tmp 3) 0, type := 0, pos := "attr.go:43", after := #[], guard := none }, { dst := some 8, op := Op.load 3 (Operand.tmp 7), type := 3, pos := "attr.go:43", after := #[{ on := 2, ground := Ground.data }], guard := none }, { dst := some 9, op := Op.binOp BinOp.eql 3 (Operand.tmp 6) (Operand.tmp 8) 3, type := 4, pos := "attr.go:43", after := #[{ on := 1, ground := Ground.data }, { on := 3, ground := Ground.data }], guard := none }, { dst := some 10, op := Op.move (Operand.tmp 9), type := 4, pos := "attr.go:43", after := #[{ on := 4, ground := Ground.data }], guard := none }, { dst := some 11, op := Op.fieldAddr 33 (Operand.tmp 2) 2, type := 0, pos := "attr.go:43", after := #[{ on := 5, ground := Ground.guard }], guard := some (5, true) }, { dst := some 12, op := Op.load 9 (Operand.tmp 11), type := 9, pos := "attr.go:43", after := #[{ on := 6, ground := Ground.data }, { on := 5, ground := Ground.guard }], guard := some (5, true) }, { dst := some 13, op := Op.fieldAddr 33 (Operand.tmp 3) 2, type := 0, pos := "attr.go:43", after := #[{ on := 5, ground := Ground.guard }], guard := some (5, true) }, { dst := some 14, op := Op.load 9 (Operand.tmp 13), type := 9, pos := "attr.go:43", after := #[{ on := 8, ground := Ground.data }, { on := 5, ground := Ground.guard }], guard := some (5, true) }, { dst := some 15, op := Op.binOp BinOp.eql 9 (Operand.tmp 12) (Operand.tmp 14) 9, type := 4, pos := "attr.go:43", after := #[{ on := 7, ground := Ground.data }, { on := 9, ground := Ground.data }, { on := 5, ground := Ground.guard }], guard := some (5, true) }, { dst := some 16, op := Op.pick (Operand.tmp 10) (Operand.tmp 15) (Operand.const (Value.bool false)), type := 4, pos := "attr.go:43", after := #[{ on := 5, ground := Ground.data }, { on := 10, ground := Ground.data }], guard := none }, { dst := some 17, op := Op.move (Operand.tmp 16), type := 4, pos := "attr.go:43", after := #[{ on := 11, ground := Ground.data }, { on := 5, ground := Ground.chain }], guard := none }, { dst := some 18, op := Op.fieldAddr 33 (Operand.tmp 2) 3, type := 0, pos := "attr.go:43", after := #[{ on := 12, ground := Ground.guard }], guard := some (12, true) }, { dst := some 19, op := Op.load 4 (Operand.tmp 18), type := 4, pos := "attr.go:43", after := #[{ on := 13, ground := Ground.data }, { on := 12, ground := Ground.guard }], guard := some (12, true) }, { dst := some 20, op := Op.fieldAddr 33 (Operand.tmp 3) 3, type := 0, pos := "attr.go:43", after := #[{ on := 12, ground := Ground.guard }], guard := some (12, true) }, { dst := some 21, op := Op.load 4 (Operand.tmp 20), type := 4, pos := "attr.go:43", after := #[{ on := 15, ground := Ground.data }, { on := 12, ground := Ground.guard }], guard := some (12, true) }, { dst := some 22, op := Op.binOp BinOp.eql 4 (Operand.tmp 19) (Operand.tmp 21) 4, type := 4, pos := "attr.go:43", after := #[{ on := 14, ground := Ground.data }, { on := 16, ground := Ground.data }, { on := 12, ground := Ground.guard }], guard := some (12, true) }, { dst := some 23, op := Op.pick (Operand.tmp 17) (Operand.tmp 22) (Operand.const (Value.bool false)), type := 4, pos := "attr.go:43", after := #[{ on := 12, ground := Ground.data }, { on := 17, ground := Ground.data }], guard := none }, { dst := some 24, op := Op.move (Operand.tmp 23), type := 4, pos := "attr.go:43", after := #[{ on := 18, ground := Ground.data }, { on := 12, ground := Ground.chain }], guard := none }, { dst := some 25, op := Op.fieldAddr 33 (Operand.tmp 2) 4, type := 0, pos := "attr.go:43", after := #[{ on := 19, ground := Ground.guard }], guard := some (19, true) }, { dst := some 26, op := Op.load 22 (Operand.tmp 25), type := 22, pos := "attr.go:43", after := #[{ on := 20, ground := Ground.data }, { on := 19, ground := Ground.guard }], guard := some (19, true) }, { dst := some 27, op := Op.fieldAddr 33 (Operand.tmp 3) 4, type := 0, pos := "attr.go:43", after := #[{ on := 19, ground := Ground.guard }], guard := some (19, true) }, { dst := some 28, op := Op.load 22 (Operand.tmp 27), type := 22, pos := "attr.go:43", after := #[{ on := 22, ground := Ground.data }, { on := 19, ground := Ground.guard }], guard := some (19, true) }, { dst := some 29, op := Op.binOp BinOp.eql 22 (Operand.tmp 26) (Operand.tmp 28) 22, type := 4, pos := "attr.go:43", after := #[{ on := 21, ground := Ground.data }, { on := 23, ground := Ground.data }, { on := 19, ground := Ground.guard }], guard := some (19, true) }, { dst := some 30, op := Op.pick (Operand.tmp 24) (Operand.tmp 29) (Operand.const (Value.bool false)), type := 4, pos := "attr.go:43", after := #[{ on := 19, ground := Ground.data }, { on := 24, ground := Ground.data }], guard := none }, { dst := some 31, op := Op.move (Operand.tmp 30), type := 4, pos := "attr.go:43", after := #[{ on := 25, ground := Ground.data }, { on := 19, ground := Ground.chain }], guard := none }, { dst := some 32, op := Op.fieldAddr 33 (Operand.tmp 2) 5, type := 0, pos := "attr.go:43", after := #[{ on := 26, ground := Ground.guard }], guard := some (26, true) }, { dst := some 33, op := Op.load 4 (Operand.tmp 32), type := 4, pos := "attr.go:43", after := #[{ on := 27, ground := Ground.data }, { on := 26, ground := Ground.guard }], guard := some (26, true) }, { dst := some 34, op := Op.fieldAddr 33 (Operand.tmp 3) 5, type := 0, pos := "attr.go:43", after := #[{ on := 26, ground := Ground.guard }], guard := some (26, true) }, { dst := some 35, op := Op.load 4 (Operand.tmp 34), type := 4, pos := "attr.go:43", after := #[{ on := 29, ground := Ground.data }, { on := 26, ground := Ground.guard }], guard := some (26, true) }, { dst := some 36, op := Op.binOp BinOp.eql 4 (Operand.tmp 33) (Operand.tmp 35) 4, type := 4, pos := "attr.go:43", after := #[{ on := 28, ground := Ground.data }, { on := 30, ground := Ground.data }, { on := 26, ground := Ground.guard }], guard := some (26, true) }, { dst := some 37, op := Op.pick (Operand.tmp 31) (Operand.tmp 36) (Operand.const (Value.bool false)), type := 4, pos := "attr.go:43", after := #[{ on := 26, ground := Ground.data }, { on := 31, ground := Ground.data }], guard := none }, { dst := some 38, op := Op.move (Operand.tmp 37), type := 4, pos := "attr.go:43", after := #[{ on := 32, ground := Ground.data }, { on := 26, ground := Ground.chain }], guard := none }, { dst := some 39, op := Op.fieldAddr 33 (Operand.tmp 2) 6, type := 0, pos := "attr.go:43", after := #[{ on := 33, ground := Ground.guard }], guard := some (33, true) }, { dst := some 40, op := Op.load 22 (Operand.tmp 39), type := 22, pos := "attr.go:43", after := #[{ on := 34, ground := Ground.data }, { on := 33, ground := Ground.guard }], guard := some (33, true) }, { dst := some 41, op := Op.fieldAddr 33 (Operand.tmp 3) 6, type := 0, pos := "attr.go:43", after := #[{ on := 33, ground := Ground.guard }], guard := some (33, true) }, { dst := some 42, op := Op.load 22 (Operand.tmp 41), type := 22, pos := "attr.go:43", after := #[{ on := 36, ground := Ground.data }, { on := 33, ground := Ground.guard }], guard := some (33, true) }, { dst := some 43, op := Op.binOp BinOp.eql 22 (Operand.tmp 40) (Operand.tmp 42) 22, type := 4, pos := "attr.go:43", after := #[{ on := 35, ground := Ground.data }, { on := 37, ground := Ground.data }, { on := 33, ground := Ground.guard }], guard := some (33, true) }, { dst := some 44, op := Op.pick (Operand.tmp 38) (Operand.tmp 43) (Operand.const (Value.bool false)), type := 4, pos := "attr.go:43", after := #[{ on := 33, ground := Ground.data }, { on := 38, ground := Ground.data }], guard := none }, { dst := some 45, op := Op.move (Operand.tmp 44), type := 4, pos := "attr.go:43", after := #[{ on := 39, ground := Ground.data }, { on := 33, ground := Ground.chain }], guard := none }, { dst := some 46, op := Op.fieldAddr 33 (Operand.tmp 2) 7, type := 0, pos := "attr.go:43", after := #[{ on := 40, ground := Ground.guard }], guard := some (40, true) }, { dst := some 47, op := Op.load 4 (Operand.tmp 46), type := 4, pos := "attr.go:43", after := #[{ on := 41, ground := Ground.data }, { on := 40, ground := Ground.guard }], guard := some (40, true) }, { dst := some 48, op := Op.fieldAddr 33 (Operand.tmp 3) 7, type := 0, pos := "attr.go:43", after := #[{ on := 40, ground := Ground.guard }], guard := some (40, true) }, { dst := some 49, op := Op.load 4 (Operand.tmp 48), type := 4, pos := "attr.go:43", after := #[{ on := 43, ground := Ground.data }, { on := 40, ground := Ground.guard }], guard := some (40, true) }, { dst := some 50, op := Op.binOp BinOp.eql 4 (Operand.tmp 47) (Operand.tmp 49) 4, type := 4, pos := "attr.go:43", after := #[{ on := 42, ground := Ground.data }, { on := 44, ground := Ground.data }, { on := 40, ground := Ground.guard }], guard := some (40, true) }, { dst := some 51, op := Op.pick (Operand.tmp 45) (Operand.tmp 50) (Operand.const (Value.bool false)), type := 4, pos := "attr.go:43", after := #[{ on := 40, ground := Ground.data }, { on := 45, ground := Ground.data }], guard := none }, { dst := some 52, op := Op.move (Operand.tmp 51), type := 4, pos := "attr.go:43", after := #[{ on := 46, ground := Ground.data }, { on := 40, ground := Ground.chain }], guard := none }, { dst := some 53, op := Op.fieldAddr 33 (Operand.tmp 2) 8, type := 0, pos := "attr.go:43", after := #[{ on := 47, ground := Ground.guard }], guard := some (47, true) }, { dst := some 54, op := Op.load 22 (Operand.tmp 53), type := 22, pos := "attr.go:43", after := #[{ on := 48, ground := Ground.data }, { on := 47, ground := Ground.guard }], guard := some (47, true) }, { dst := some 55, op := Op.fieldAddr 33 (Operand.tmp 3) 8, type := 0, pos := "attr.go:43", after := #[{ on := 47, ground := Ground.guard }], guard := some (47, true) }, { dst := some 56, op := Op.load 22 (Operand.tmp 55), type := 22, pos := "attr.go:43", after := #[{ on := 50, ground := Ground.data }, { on := 47, ground := Ground.guard }], guard := some (47, true) }, { dst := some 57, op := Op.binOp BinOp.eql 22 (Operand.tmp 54) (Operand.tmp 56) 22, type := 4, pos := "attr.go:43", after := #[{ on := 49, ground := Ground.data }, { on := 51, ground := Ground.data }, { on := 47, ground := Ground.guard }], guard := some (47, true) }, { dst := some 58, op := Op.pick (Operand.tmp 52) (Operand.tmp 57) (Operand.const (Value.bool false)), type := 4, pos := "attr.go:43", after := #[{ on := 47, ground := Ground.data }, { on := 52, ground := Ground.data }], guard := none }, { dst := some 59, op := Op.move (Operand.tmp 58), type := 4, pos := "attr.go:43", after := #[{ on := 53, ground := Ground.data }, { on := 47, ground := Ground.chain }], guard := none }, { dst := some 60, op := Op.fieldAddr 33 (Operand.tmp 2) 9, type := 0, pos := "attr.go:43", after := #[{ on := 54, ground := Ground.guard }], guard := some (54, true) }, { dst := some 61, op := Op.load 22 (Operand.tmp 60), type := 22, pos := "attr.go:43", after := #[{ on := 55, ground := Ground.data }, { on := 54, ground := Ground.guard }], guard := some (54, true) }, { dst := some 62, op := Op.fieldAddr 33 (Operand.tmp 3) 9, type := 0, pos := "attr.go:43", after := #[{ on := 54, ground := Ground.guard }], guard := some (54, true) }, { dst := some 63, op := Op.load 22 (Operand.tmp 62), type := 22, pos := "attr.go:43", after := #[{ on := 57, ground := Ground.data }, { on := 54, ground := Ground.guard }], guard := some (54, true) }, { dst := some 64, op := Op.binOp BinOp.eql 22 (Operand.tmp 61) (Operand.tmp 63) 22, type := 4, pos := "attr.go:43", after := #[{ on := 56, ground := Ground.data }, { on := 58, ground := Ground.data }, { on := 54, ground := Ground.guard }], guard := some (54, true) }, { dst := some 65, op := Op.pick (Operand.tmp 59) (Operand.tmp 64) (Operand.const (Value.bool false)), type := 4, pos := "attr.go:43", after := #[{ on := 54, ground := Ground.data }, { on := 59, ground := Ground.data }], guard := none }, { dst := some 66, op := Op.move (Operand.tmp 65), type := 4, pos := "attr.go:43", after := #[{ on := 60, ground := Ground.data }, { on := 54, ground := Ground.chain }], guard := none }, { dst := some 67, op := Op.fieldAddr 33 (Operand.tmp 2) 13, type := 0, pos := "attr.go:43", after := #[{ on := 61, ground := Ground.guard }], guard := some (61, true) }, { dst := some 68, op := Op.load 4 (Operand.tmp 67), type := 4, pos := "attr.go:43", after := #[{ on := 62, ground := Ground.data }, { on := 61, ground := Ground.guard }], guard := some (61, true) }, { dst := some 69, op := Op.fieldAddr 33 (Operand.tmp 3) 13, type := 0, pos := "attr.go:43", after := #[{ on := 61, ground := Ground.guard }], guard := some (61, true) }, { dst := some 70, op := Op.load 4 (Operand.tmp 69), type := 4, pos := "attr.go:43", after := #[{ on := 64, ground := Ground.data }, { on := 61, ground := Ground.guard }], guard := some (61, true) }, { dst := some 71, op := Op.binOp BinOp.eql 4 (Operand.tmp 68) (Operand.tmp 70) 4, type := 4, pos := "attr.go:43", after := #[{ on := 63, ground := Ground.data }, { on := 65, ground := Ground.data }, { on := 61, ground := Ground.guard }], guard := some (61, true) }, { dst := some 72, op := Op.pick (Operand.tmp 66) (Operand.tmp 71) (Operand.const (Value.bool false)), type := 4, pos := "attr.go:43", after := #[{ on := 61, ground := Ground.data }, { on := 66, ground := Ground.data }], guard := none }, { dst := some 73, op := Op.move (Operand.tmp 72), type := 4, pos := "attr.go:43", after := #[{ on := 67, ground := Ground.data }, { on := 61, ground := Ground.chain }], guard := none }, { dst := some 74, op := Op.fieldAddr 33 (Operand.tmp 2) 14, type := 0, pos := "attr.go:43", after := #[{ on := 68, ground := Ground.guard }], guard := some (68, true) }, { dst := some 75, op := Op.load 22 (Operand.tmp 74), type := 22, pos := "attr.go:43", after := #[{ on := 69, ground := Ground.data }, { on := 68, ground := Ground.guard }], guard := some (68, true) }, { dst := some 76, op := Op.fieldAddr 33 (Operand.tmp 3) 14, type := 0, pos := "attr.go:43", after := #[{ on := 68, ground := Ground.guard }], guard := some (68, true) }, { dst := some 77, op := Op.load 22 (Operand.tmp 76), type := 22, pos := "attr.go:43", after := #[{ on := 71, ground := Ground.data }, { on := 68, ground := Ground.guard }], guard := some (68, true) }, { dst := some 78, op := Op.binOp BinOp.eql 22 (Operand.tmp 75) (Operand.tmp 77) 22, type := 4, pos := "attr.go:43", after := #[{ on := 70, ground := Ground.data }, { on := 72, ground := Ground.data }, { on := 68, ground := Ground.guard }], guard := some (68, true) }, { dst := some 79, op := Op.pick (Operand.tmp 73) (Operand.tmp 78) (Operand.const (Value.bool false)), type := 4, pos := "attr.go:43", after := #[{ on := 68, ground := Ground.data }, { on := 73, ground := Ground.data }], guard := none }, { dst := some 80, op := Op.move (Operand.tmp 79), type := 4, pos := "attr.go:43", after := #[{ on := 74, ground := Ground.data }, { on := 68, ground := Ground.chain }], guard := none }, { dst := some 81, op := Op.fieldAddr 33 (Operand.tmp 2) 1, type := 0, pos := "attr.go:43", after := #[{ on := 75, ground := Ground.guard }], guard := some (75, true) }, { dst := some 82, op := Op.load 28 (Operand.tmp 81), type := 28, pos := "attr.go:43", after := #[{ on := 76, ground := Ground.data }, { on := 75, ground := Ground.guard }], guard := some (75, true) }, { dst := some 83, op := Op.fieldAddr 33 (Operand.tmp 3) 1, type := 0, pos := "attr.go:43", after := #[{ on := 75, ground := Ground.guard }], guard := some (75, true) }, { dst := some 84, op := Op.load 28 (Operand.tmp 83), type := 28, pos := "attr.go:43", after := #[{ on := 78, ground := Ground.data }, { on := 75, ground := Ground.guard }], guard := some (75, true) }, { dst := some 85, op := Op.call { callee := Callee.value (Operand.func 24), args := #[Operand.tmp 82, Operand.tmp 84], argTypes := #[28, 28] }, type := 4, pos := "attr.go:45", after := #[{ on := 77, ground := Ground.data }, { on := 79, ground := Ground.data }, { on := 75, ground := Ground.chain }, { on := 75, ground := Ground.guard }], guard := some (75, true) }, { dst := some 86, op := Op.pick (Operand.tmp 80) (Operand.tmp 85) (Operand.const (Value.bool false)), type := 4, pos := "attr.go:43", after := #[{ on := 75, ground := Ground.data }, { on := 80, ground := Ground.data }], guard := none }, { dst := some 87, op := Op.move (Operand.tmp 86), type := 4, pos := "attr.go:43", after := #[{ on := 81, ground := Ground.data }, { on := 80, ground := Ground.chain }], guard := none }, { dst := some 88, op := Op.fieldAddr 33 (Operand.tmp 2) 10, type := 0, pos := "attr.go:43", after := #[{ on := 82, ground := Ground.guard }], guard := some (82, true) }, { dst := some 89, op := Op.load 29 (Operand.tmp 88), type := 29, pos := "attr.go:43", after := #[{ on := 83, ground := Ground.data }, { on := 82, ground := Ground.guard }], guard := some (82, true) }, { dst := some 90, op := Op.fieldAddr 33 (Operand.tmp 3) 10, type := 0, pos := "attr.go:43", after := #[{ on := 82, ground := Ground.guard }], guard := some (82, true) }, { dst := some 91, op := Op.load 29 (Operand.tmp 90), type := 29, pos := "attr.go:43", after := #[{ on := 85, ground := Ground.data }, { on := 82, ground := Ground.guard }], guard := some (82, true) }, { dst := some 92, op := Op.call { callee := Callee.value (Operand.func 52), args := #[Operand.tmp 89, Operand.tmp 91], argTypes := #[29, 29] }, type := 4, pos := "attr.go:45", after := #[{ on := 84, ground := Ground.data }, { on := 86, ground := Ground.data }, { on := 82, ground := Ground.chain }, { on := 82, ground := Ground.guard }], guard := some (82, true) }, { dst := some 93, op := Op.pick (Operand.tmp 87) (Operand.tmp 92) (Operand.const (Value.bool false)), type := 4, pos := "attr.go:43", after := #[{ on := 82, ground := Ground.data }, { on := 87, ground := Ground.data }], guard := none }, { dst := some 94, op := Op.move (Operand.tmp 93), type := 4, pos := "attr.go:43", after := #[{ on := 88, ground := Ground.data }, { on := 87, ground := Ground.chain }], guard := none }, { dst := some 95, op := Op.fieldAddr 33 (Operand.tmp 2) 11, type := 0, pos := "attr.go:43", after := #[{ on := 89, ground := Ground.guard }], guard := some (89, true) }, { dst := some 96, op := Op.load 30 (Operand.tmp 95), type := 30, pos := "attr.go:43", after := #[{ on := 90, ground := Ground.data }, { on := 89, ground := Ground.guard }], guard := some (89, true) }, { dst := some 97, op := Op.fieldAddr 33 (Operand.tmp 3) 11, type := 0, pos := "attr.go:43", after := #[{ on := 89, ground := Ground.guard }], guard := some (89, true) }, { dst := some 98, op := Op.load 30 (Operand.tmp 97), type := 30, pos := "attr.go:43", after := #[{ on := 92, ground := Ground.data }, { on := 89, ground := Ground.guard }], guard := some (89, true) }, { dst := some 99, op := Op.call { callee := Callee.value (Operand.func 53), args := #[Operand.tmp 96, Operand.tmp 98], argTypes := #[30, 30] }, type := 4, pos := "attr.go:45", after := #[{ on := 91, ground := Ground.data }, { on := 93, ground := Ground.data }, { on := 89, ground := Ground.chain }, { on := 89, ground := Ground.guard }], guard := some (89, true) }, { dst := some 100, op := Op.pick (Operand.tmp 94) (Operand.tmp 99) (Operand.const (Value.bool false)), type := 4, pos := "attr.go:43", after := #[{ on := 89, ground := Ground.data }, { on := 94, ground := Ground.data }], guard := none }, { dst := some 101, op := Op.move (Operand.tmp 100), type := 4, pos := "attr.go:43", after := #[{ on := 95, ground := Ground.data }, { on := 94, ground := Ground.chain }], guard := none }, { dst := some 102, op := Op.fieldAddr 33 (Operand.tmp 2) 12, type := 0, pos := "attr.go:43", after := #[{ on := 96, ground := Ground.guard }], guard := some (96, true) }, { dst := some 103, op := Op.load 31 (Operand.tmp 102), type := 31, pos := "attr.go:43", after := #[{ on := 97, ground := Ground.data }, { on := 96, ground := Ground.guard }], guard := some (96, true) }, { dst := some 104, op := Op.fieldAddr 33 (Operand.tmp 3) 12, type := 0, pos := "attr.go:43", after := #[{ on := 96, ground := Ground.guard }], guard := some (96, true) }, { dst := some 105, op := Op.load 31 (Operand.tmp 104), type := 31, pos := "attr.go:43", after := #[{ on := 99, ground := Ground.data }, { on := 96, ground := Ground.guard }], guard := some (96, true) }, { dst := some 106, op := Op.call { callee := Callee.value (Operand.func 54), args := #[Operand.tmp 103, Operand.tmp 105], argTypes := #[31, 31] }, type := 4, pos := "attr.go:45", after := #[{ on := 98, ground := Ground.data }, { on := 100, ground := Ground.data }, { on := 96, ground := Ground.chain }, { on := 96, ground := Ground.guard }], guard := some (96, true) }, { dst := some 107, op := Op.pick (Operand.tmp 101) (Operand.tmp 106) (Operand.const (Value.bool false)), type := 4, pos := "attr.go:43", after := #[{ on := 96, ground := Ground.data }, { on := 101, ground := Ground.data }], guard := none }, { dst := some 108, op := Op.move (Operand.tmp 107), type := 4, pos := "attr.go:43", after := #[{ on := 102, ground := Ground.data }, { on := 101, ground := Ground.chain }], guard := none }, { dst := some 109, op := Op.fieldAddr 33 (Operand.tmp 2) 15, type := 0, pos := "attr.go:43", after := #[{ on := 103, ground := Ground.guard }], guard := some (103, true) }, { dst := some 110, op := Op.load 29 (Operand.tmp 109), type := 29, pos := "attr.go:43", after := #[{ on := 104, ground := Ground.data }, { on := 103, ground := Ground.guard }], guard := some (103, true) }, { dst := some 111, op := Op.fieldAddr 33 (Operand.tmp 3) 15, type := 0, pos := "attr.go:43", after := #[{ on := 103, ground := Ground.guard }], guard := some (103, true) }, { dst := some 112, op := Op.load 29 (Operand.tmp 111), type := 29, pos := "attr.go:43", after := #[{ on := 106, ground := Ground.data }, { on := 103, ground := Ground.guard }], guard := some (103, true) }, { dst := some 113, op := Op.call { callee := Callee.value (Operand.func 52), args := #[Operand.tmp 110, Operand.tmp 112], argTypes := #[29, 29] }, type := 4, pos := "attr.go:45", after := #[{ on := 105, ground := Ground.data }, { on := 107, ground := Ground.data }, { on := 103, ground := Ground.chain }, { on := 103, ground := Ground.guard }], guard := some (103, true) }, { dst := some 114, op := Op.pick (Operand.tmp 108) (Operand.tmp 113) (Operand.const (Value.bool false)), type := 4, pos := "attr.go:43", after := #[{ on := 103, ground := Ground.data }, { on := 108, ground := Ground.data }], guard := none }, { dst := some 4, op := Op.assign (Operand.tmp 114), type := 4, pos := "attr.go:43", after := ([{ on := 109, ground := Ground.data }, { on := 108, ground := Ground.chain }, { on := 0, ground := Ground.phase }, { on := 1, ground := Ground.phase }, { on := 2, ground := Ground.phase }, { on := 3, ground := Ground.phase }, { on := 4, ground := Ground.phase }, { on := 5, ground := Ground.phase }, { on := 6, ground := Ground.phase }, { on := 7, ground := Ground.phase }, { on := 8, ground := Ground.phase }, { on := 9, ground := Ground.phase }, { on := 10, ground := Ground.phase }, { on := 11, ground := Ground.phase }, { on := 12, ground := Ground.phase }, { on := 13, ground := Ground.phase }, { on := 14, ground := Ground.phase }, { on := 15, ground := Ground.phase }, { on := 16, ground := Ground.phase }, { on := 17, ground := Ground.phase }, { on := 18, ground := Ground.phase }, { on := 19, ground := Ground.phase }, { on := 20, ground := Ground.phase }, { on := 21, ground := Ground.phase }, { on := 22, ground := Ground.phase }, { on := 23, ground := Ground.phase }, { on := 24, ground := Ground.phase }, { on := 25, ground := Ground.phase }, { on := 26, ground := Ground.phase }, { on := 27, ground := Ground.phase }, { on := 28, ground := Ground.phase }, { on := 29, ground := Ground.phase }, { on := 30, ground := Ground.phase }, { on := 31, ground := Ground.phase }, { on := 32, ground := Ground.phase }, { on := 33, ground := Ground.phase }, { on := 34, ground := Ground.phase }, { on := 35, ground := Ground.phase }, { on := 36, ground := Ground.phase }, { on := 37, ground := Ground.phase }, { on := 38, ground := Ground.phase }, { on := 39, ground := Ground.phase }, { on := 40, ground := Ground.phase }, { on := 41, ground := Ground.phase }, { on := 42, ground := Ground.phase }, { on := 43, ground := Ground.phase }, { on := 44, ground := Ground.phase }, { on := 45, ground := Ground.phase }, { on := 46, ground := Ground.phase }, { on := 47, ground := Ground.phase }, { on := 48, ground := Ground.phase }, { on := 49, ground := Ground.phase }, { on := 50, ground := Ground.phase }, { on := 51, ground := Ground.phase }, { on := 52, ground := Ground.phase }, { on := 53, ground := Ground.phase }].append [{ on := 54, ground := Ground.phase }, { on := 55, ground := Ground.phase }, { on := 56, ground := Ground.phase }, { on := 57, ground := Ground.phase }, { on := 58, ground := Ground.phase }, { on := 59, ground := Ground.phase }, { on := 60, ground := Ground.phase }, { on := 61, ground := Ground.phase }, { on := 62, ground := Ground.phase }, { on := 63, ground := Ground.phase }, { on := 64, ground := Ground.phase }, { on := 65, ground := Ground.phase }, { on := 66, ground := Ground.phase }, { on := 67, ground := Ground.phase }, { on := 68, ground := Ground.phase }, { on := 69, ground := Ground.phase }, { on := 70, ground := Ground.phase }, { on := 71, ground := Ground.phase }, { on := 72, ground := Ground.phase }, { on := 73, ground := Ground.phase }, { on := 74, ground := Ground.phase }, { on := 75, ground := Ground.phase }, { on := 76, ground := Ground.phase }, { on := 77, ground := Ground.phase }, { on := 78, ground := Ground.phase }, { on := 79, ground := Ground.phase }, { on := 80, ground := Ground.phase }, { on := 81, ground := Ground.phase }, { on := 82, ground := Ground.phase }, { on := 83, ground := Ground.phase }, { on := 84, ground := Ground.phase }, { on := 85, ground := Ground.phase }, { on := 86, ground := Ground.phase }, { on := 87, ground := Ground.phase }, { on := 88, ground := Ground.phase }, { on := 89, ground := Ground.phase }, { on := 90, ground := Ground.phase }, { on := 91, ground := Ground.phase }, { on := 92, ground := Ground.phase }, { on := 93, ground := Ground.phase }, { on := 94, ground := Ground.phase }, { on := 95, ground := Ground.phase }, { on := 96, ground := Ground.phase }, { on := 97, ground := Ground.phase }, { on := 98, ground := Ground.phase }, { on := 99, ground := Ground.phase }, { on := 100, ground := Ground.phase }, { on := 101, ground := Ground.phase }, { on := 102, ground := Ground.phase }, { on := 103, ground := Ground.phase }, { on := 104, ground := Ground.phase }, { on := 105, ground := Ground.phase }, { on := 106, ground := Ground.phase }, { on := 107, ground := Ground.phase }, { on := 108, ground := Ground.phase }, { on := 109, ground := Ground.phase }]).toArray, guard := none }] (by kernel_rfl) ?_
  by_cases q : a.origin = b.origin
  case neg =>
    have HF : Hid (r = false) := by show _ = _; rw [← HR.out]; exact decide_eq_false (fun e => q (by have := (AtC.eq_iff.2 e).1; exact this))
    clear HQp HQm HQx HQl HQk HR hlt hld HC0 HD0 HOA0 HOB0
    have q0 : (a.origin == b.origin) = false := beq_eq_false_iff_ne.2 q
    have n0 : (a.origin != b.origin) = true := by rw [bne, q0]; rfl
    clear q
    as_aux_lemma =>
      go_wp2_with (with_reducible show wpList _ _ _ (⟨some 11, _, _, _, _, _⟩ :: _) _ _; refine wpList_pure (a' := { tmps := #[.agg a.ar, .agg b.ar, .pointer (some ⟨w.heap.size, 0, none⟩), .pointer (some ⟨w.heap.size + 1, 0, none⟩), .bool false, .pointer (some ⟨w.heap.size, 0, none⟩), .int .i64 a.origin, .pointer (some ⟨w.heap.size + 1, 0, none⟩), .int .i64 b.origin, .bool false, .bool false, undef, undef, undef, undef, undef, .bool false, .bool false, undef, undef, undef, undef, undef, .bool false, .bool false, undef, undef, undef, undef, undef, .bool false, .bool false, undef, undef, undef, undef, undef, .bool false, .bool false, undef, undef, undef, undef, undef, .bool false, .bool false, undef, undef, undef, undef, undef, .bool false, .bool false, undef, undef, undef, undef, undef, .bool false, .bool false, undef, undef, undef, undef, undef, .bool false, .bool false, undef, undef, undef, undef, undef, .bool false, .bool false, undef, undef, undef, undef, undef, .bool false, .bool false, undef, undef, undef, undef, undef, .bool false, .bool false, undef, undef, undef, undef, undef, .bool false, .bool false, undef, undef, undef, undef, undef, .bool false, .bool false, undef, undef, undef, undef, undef, .bool false, .bool false, undef, undef, undef, undef, undef, .bool false], defers := [] }) (by as_aux_lemma => kernel_rfl) ?_)
      go_ret
      exact ⟨by rw [HF.out]; rfl, HB0.out⟩
  have q0 : (a.origin == b.origin) = true := beq_iff_eq.2 q
  have n0 : (a.origin != b.origin) = false := by simp [q]
  have E0 := Lib.hid q
  clear q
  go_wp2_with (with_reducible show wpList _ _ _ (⟨some 11, _, _, _, _, _⟩ :: _) _ _; refine StopB ?_)
  refine StopA ?_
  by_cases q : a.next = b.next
  case neg =>
    have HF : Hid (r = false) := by show _ = _; rw [← HR.out]; exact decide_eq_false (fun e => q (by have := (AtC.eq_iff.2 e).2.1; exact this))
    clear HQp HQm HQx HQl HQk HR hlt hld HC0 HD0 HOA0 HOB0
    have q1 : (a.next.toList == b.next.toList) = false := Bool.eq_false_iff.2 (fun e => q (bytes_eq.1 e))
    have n1 : (a.next.toList != b.next.toList) = true := by rw [bne, q1]; rfl
    clear q
    as_aux_lemma =>
      go_wp2_with (with_reducible show wpList _ _ _ (⟨some 19, _, _, _, _, _⟩ :: _) _ _; refine wpList_pure (a' := { tmps := #[.agg a.ar, .agg b.ar, .pointer (some ⟨w.heap.size, 0, none⟩), .pointer (some ⟨w.heap.size + 1, 0, none⟩), .bool false, .pointer (some ⟨w.heap.size, 0, none⟩), .int .i64 a.origin, .pointer (some ⟨w.heap.size + 1, 0, none⟩), .int .i64 b.origin, .bool true, .bool true, .pointer (some ⟨w.heap.size, 2, none⟩), .string a.next, .pointer (some ⟨w.heap.size + 1, 2, none⟩), .string b.next, .bool false, .bool false, .bool false, undef, undef, undef, undef, undef, .bool false, .bool false, undef, undef, undef, undef, undef, .bool false, .bool false, undef, undef, undef, undef, undef, .bool false, .bool false, undef, undef, undef, undef, undef, .bool false, .bool false, undef, undef, undef, undef, undef, .bool false, .bool false, undef, undef, undef, undef, undef, .bool false, .bool false, undef, undef, undef, undef, undef, .bool false, .bool false, undef, undef, undef, undef, undef, .bool false, .bool false, undef, undef, undef, undef, undef, .bool false, .bool false, undef, undef, undef, undef, undef, .bool false, .bool false, undef, undef, undef, undef, undef, .bool false, .bool false, undef, undef, undef, undef, undef, .bool false, .bool false, undef, undef, undef, undef, undef, .bool false, .bool false, undef, undef, undef, undef, undef, .bool false], defers := [] }) (by as_aux_lemma => kernel_rfl) ?_)
      go_ret
      exact ⟨by rw [HF.out]; rfl, HB0.out⟩
  have q1 : (a.next.toList == b.next.toList) = true := bytes_eq.2 q
  have n1 : (a.next.toList != b.next.toList) = false := by rw [q]; simp
  have E1 := Lib.hid q
  clear q
  go_wp2_with (with_reducible show wpList _ _ _ (⟨some 18, _, _, _, _, _⟩ :: _) _ _; refine StopB ?_)
  refine StopA ?_
  by_cases q : a.hasMed = b.hasMed
  case neg =>
    have HF : Hid (r = false) := by show _ = _; rw [← HR.out]; exact decide_eq_false (fun e => q (by have := (AtC.eq_iff.2 e).2.2.1; exact this))
    clear HQp HQm HQx HQl HQk HR hlt hld HC0 HD0 HOA0 HOB0
    have q2 : (a.hasMed == b.hasMed) = false := beq_eq_false_iff_ne.2 q
    have n2 : (a.hasMed != b.hasMed) = true := by rw [bne, q2]; rfl
    clear q
    as_aux_lemma =>
      go_wp2_with (with_reducible show wpList _ _ _ (⟨some 26, _, _, _, _, _⟩ :: _) _ _; refine wpList_pure (a' := { tmps := #[.agg a.ar, .agg b.ar, .pointer (some ⟨w.heap.size, 0, none⟩), .pointer (some ⟨w.heap.size + 1, 0, none⟩), .bool false, .pointer (some ⟨w.heap.size, 0, none⟩), .int .i64 a.origin, .pointer (some ⟨w.heap.size + 1, 0, none⟩), .int .i64 b.origin, .bool true, .bool true, .pointer (some ⟨w.heap.size, 2, none⟩), .string a.next, .pointer (some ⟨w.heap.size + 1, 2, none⟩), .string b.next, .bool true, .bool true, .bool true, .pointer (some ⟨w.heap.size, 3, none⟩), .bool a.hasMed, .pointer (some ⟨w.heap.size + 1, 3, none⟩), .bool b.hasMed, .bool false, .bool false, .bool false, undef, undef, undef, undef, undef, .bool false, .bool false, undef, undef, undef, undef, undef, .bool false, .bool false, undef, undef, undef, undef, undef, .bool false, .bool false, undef, undef, undef, undef, undef, .bool false, .bool false, undef, undef, undef, undef, undef, .bool false, .bool false, undef, undef, undef, undef, undef, .bool false, .bool false, undef, undef, undef, undef, undef, .bool false, .bool false, undef, undef, undef, undef, undef, .bool false, .bool false, undef, undef, undef, undef, undef, .bool false, .bool false, undef, undef, undef, undef, undef, .bool false, .bool false, undef, undef, undef, undef, undef, .bool false, .bool false, undef, undef, undef, undef, undef, .bool false, .bool false, undef, undef, undef, undef, undef, .bool false], defers := [] }) (by as_aux_lemma => kernel_rfl) ?_)
      go_ret
      exact ⟨by rw [HF.out]; rfl, HB0.out⟩
  have q2 : (a.hasMed == b.hasMed) = true := beq_iff_eq.2 q
  have n2 : (a.hasMed != b.hasMed) = false := by simp [q]
  have E2 := Lib.hid q
  clear q
  go_wp2_with (with_reducible show wpList _ _ _ (⟨some 25, _, _, _, _, _⟩ :: _) _ _; refine StopB ?_)
  refine StopA ?_
  by_cases q : a.med = b.med
  case neg =>
    have HF : Hid (r = false) := by show _ = _; rw [← HR.out]; exact decide_eq_false (fun e => q (by have := (AtC.eq_iff.2 e).2.2.2.1; exact this))
    clear HQp HQm HQx HQl HQk HR hlt hld HC0 HD0 HOA0 HOB0
    have q3 : ((a.med : Int) == (b.med : Int)) = false := beq_eq_false_iff_ne.2 (by omega)
    have n3 : ((a.med : Int) != (b.med : Int)) = true := by rw [bne, q3]; rfl
    clear q
    as_aux_lemma =>
      go_wp2_with (with_reducible show wpList _ _ _ (⟨some 33, _, _, _, _, _⟩ :: _) _ _; refine wpList_pure (a' := { tmps := #[.agg a.ar, .agg b.ar, .pointer (some ⟨w.heap.size, 0, none⟩), .pointer (some ⟨w.heap.size + 1, 0, none⟩), .bool false, .pointer (some ⟨w.heap.size, 0, none⟩), .int .i64 a.origin, .pointer (some ⟨w.heap.size + 1, 0, none⟩), .int .i64 b.origin, .bool true, .bool true, .pointer (some ⟨w.heap.size, 2, none⟩), .string a.next, .pointer (some ⟨w.heap.size + 1, 2, none⟩), .string b.next, .bool true, .bool true, .bool true, .pointer (some ⟨w.heap.size, 3, none⟩), .bool a.hasMed, .pointer (some ⟨w.heap.size + 1, 3, none⟩), .bool b.hasMed, .bool true, .bool true, .bool true, .pointer (some ⟨w.heap.size, 4, none⟩), .int .u32 (a.med : Nat), .pointer (some ⟨w.heap.size + 1, 4, none⟩), .int .u32 (b.med : Nat), .bool false, .bool false, .bool false, undef, undef, undef, undef, undef, .bool false, .bool false, undef, undef, undef, undef, undef, .bool false, .bool false, undef, undef, undef, undef, undef, .bool false, .bool false, undef, undef, undef, undef, undef, .bool false, .bool false, undef, undef, undef, undef, undef, .bool false, .bool false, undef, undef, undef, undef, undef, .bool false, .bool false, undef, undef, undef, undef, undef, .bool false, .bool false, undef, undef, undef, undef, undef, .bool false, .bool false, undef, undef, undef, undef, undef, .bool false, .bool false, undef, undef, undef, undef, undef, .bool false, .bool false, undef, undef, undef, undef, undef, .bool false, .bool false, undef, undef, undef, undef, undef, .bool false], defers := [] }) (by as_aux_lemma => kernel_rfl) ?_)
      go_ret
      exact ⟨by rw [HF.out]; rfl, HB0.out⟩
  have q3 : ((a.med : Int) == (b.med : Int)) = true := by rw [q]; simp
  have n3 : ((a.med : Int) != (b.med : Int)) = false := by rw [q]; simp
  have E3 := Lib.hid q
  clear q
  go_wp2_with (with_reducible show wpList _ _ _ (⟨some 32, _, _, _, _, _⟩ :: _) _ _; refine StopB ?_)
  refine StopA ?_
  by_cases q : a.hasPref = b.hasPref
  case neg =>
    have HF : Hid (r = false) := by show _ = _; rw [← HR.out]; exact decide_eq_false (fun e => q (by have := (AtC.eq_iff.2 e).2.2.2.2.1; exact this))
    clear HQp HQm HQx HQl HQk HR hlt hld HC0 HD0 HOA0 HOB0
    have q4 : (a.hasPref == b.hasPref) = false := beq_eq_false_iff_ne.2 q
    have n4 : (a.hasPref != b.hasPref) = true := by rw [bne, q4]; rfl
    clear q
    as_aux_lemma =>
      go_wp2_with (with_reducible show wpList _ _ _ (⟨some 40, _, _, _, _, _⟩ :: _) _ _; refine wpList_pure (a' := { tmps := #[.agg a.ar, .agg b.ar, .pointer (some ⟨w.heap.size, 0, none⟩), .pointer (some ⟨w.heap.size + 1, 0, none⟩), .bool false, .pointer (some ⟨w.heap.size, 0, none⟩), .int .i64 a.origin, .pointer (some ⟨w.heap.size + 1, 0, none⟩), .int .i64 b.origin, .bool true, .bool true, .pointer (some ⟨w.heap.size, 2, none⟩), .string a.next, .pointer (some ⟨w.heap.size + 1, 2, none⟩), .string b.next, .bool true, .bool true, .bool true, .pointer (some ⟨w.heap.size, 3, none⟩), .bool a.hasMed, .pointer (some ⟨w.heap.size + 1, 3, none⟩), .bool b.hasMed, .bool true, .bool true, .bool true, .pointer (some ⟨w.heap.size, 4, none⟩), .int .u32 (a.med : Nat), .pointer (some ⟨w.heap.size + 1, 4, none⟩), .int .u32 (b.med : Nat), .bool true, .bool true, .bool true, .pointer (some ⟨w.heap.size, 5, none⟩), .bool a.hasPref, .pointer (some ⟨w.heap.size + 1, 5, none⟩), .bool b.hasPref, .bool false, .bool false, .bool false, undef, undef, undef, undef, undef, .bool false, .bool false, undef, undef, undef, undef, undef, .bool false, .bool false, undef, undef, undef, undef, undef, .bool false, .bool false, undef, undef, undef, undef, undef, .bool false, .bool false, undef, undef, undef, undef, undef, .bool false, .bool false, undef, undef, undef, undef, undef, .bool false, .bool false, undef, undef, undef, undef, undef, .bool false, .bool false, undef, undef, undef, undef, undef, .bool false, .bool false, undef, undef, undef, undef, undef, .bool false, .bool false, undef, undef, undef, undef, undef, .bool false, .bool false, undef, undef, undef, undef, undef, .bool false], defers := [] }) (by as_aux_lemma => kernel_rfl) ?_)
      go_ret
      exact ⟨by rw [HF.out]; rfl, HB0.out⟩
  have q4 : (a.hasPref == b.hasPref) = true := beq_iff_eq.2 q
  have n4 : (a.hasPref != b.hasPref) = false := by simp [q]
  have E4 := Lib.hid q
  clear q
  go_wp2_with (with_reducible show wpList _ _ _ (⟨some 39, _, _, _, _, _⟩ :: _) _ _; refine StopB ?_)
  refine StopA ?_
  by_cases q : a.pref = b.pref
  case neg =>
    have HF : Hid (r = false) := by show _ = _; rw [← HR.out]; exact decide_eq_false (fun e => q (by have := (AtC.eq_iff.2 e).2.2.2.2.2.1; exact this))
    clear HQp HQm HQx HQl HQk HR hlt hld HC0 HD0 HOA0 HOB0
    have q5 : ((a.pref : Int) == (b.pref : Int)) = false := beq_eq_false_iff_ne.2 (by omega)
    have n5 : ((a.pref : Int) != (b.pref : Int)) = true := by rw [bne, q5]; rfl
    clear q
    as_aux_lemma =>
      go_wp2_with (with_reducible show wpList _ _ _ (⟨some 47, _, _, _, _, _⟩ :: _) _ _; refine wpList_pure (a' := { tmps := #[.agg a.ar, .agg b.ar, .pointer (some ⟨w.heap.size, 0, none⟩), .pointer (some ⟨w.heap.size + 1, 0, none⟩), .bool false, .pointer (some ⟨w.heap.size, 0, none⟩), .int .i64 a.origin, .pointer (some ⟨w.heap.size + 1, 0, none⟩), .int .i64 b.origin, .bool true, .bool true, .pointer (some ⟨w.heap.size, 2, none⟩), .string a.next, .pointer (some ⟨w.heap.size + 1, 2, none⟩), .string b.next, .bool true, .bool true, .bool true, .pointer (some ⟨w.heap.size, 3, none⟩), .bool a.hasMed, .pointer (some ⟨w.heap.size + 1, 3, none⟩), .bool b.hasMed, .bool true, .bool true, .bool true, .pointer (some ⟨w.heap.size, 4, none⟩), .int .u32 (a.med : Nat), .pointer (some ⟨w.heap.size + 1, 4, none⟩), .int .u32 (b.med : Nat), .bool true, .bool true, .bool true, .pointer (some ⟨w.heap.size, 5, none⟩), .bool a.hasPref, .pointer (some ⟨w.heap.size + 1, 5, none⟩), .bool b.hasPref, .bool true, .bool true, .bool true, .pointer (some ⟨w.heap.size, 6, none⟩), .int .u32 (a.pref : Nat), .pointer (some ⟨w.heap.size + 1, 6, none⟩), .int .u32 (b.pref : Nat), .bool false, .bool false, .bool false, undef, undef, undef, undef, undef, .bool false, .bool false, undef, undef, undef, undef, undef, .bool false, .bool false, undef, undef, undef, undef, undef, .bool false, .bool false, undef, undef, undef, undef, undef, .bool false, .bool false, undef, undef, undef, undef, undef, .bool false, .bool false, undef, undef, undef, undef, undef, .bool false, .bool false, undef, undef, undef, undef, undef, .bool false, .bool false, undef, undef, undef, undef, undef, .bool false, .bool false, undef, undef, undef, undef, undef, .bool false, .bool false, undef, undef, undef, undef, undef, .bool false], defers := [] }) (by as_aux_lemma => kernel_rfl) ?_)
      go_ret
      exact ⟨by rw [HF.out]; rfl, HB0.out⟩
  have q5 : ((a.pref : Int) == (b.pref : Int)) = true := by rw [q]; simp
  have n5 : ((a.pref : Int) != (b.pref : Int)) = false := by rw [q]; simp
  have E5 := Lib.hid q
  clear q
  go_wp2_with (with_reducible show wpList _ _ _ (⟨some 46, _, _, _, _, _⟩ :: _) _ _; refine StopB ?_)
  refine StopA ?_
  by_cases q : a.atomic = b.atomic
  case neg =>
    have HF : Hid (r = false) := by show _ = _; rw [← HR.out]; exact decide_eq_false (fun e => q (by have := (AtC.eq_iff.2 e).2.2.2.2.2.2.1; exact this))
    clear HQp HQm HQx HQl HQk HR hlt hld HC0 HD0 HOA0 HOB0
    have q6 : (a.atomic == b.atomic) = false := beq_eq_false_iff_ne.2 q
    have n6 : (a.atomic != b.atomic) = true := by rw [bne, q6]; rfl
    clear q
    as_aux_lemma =>
      go_wp2_with (with_reducible show wpList _ _ _ (⟨some 54, _, _, _, _, _⟩ :: _) _ _; refine wpList_pure (a' := { tmps := #[.agg a.ar, .agg b.ar, .pointer (some ⟨w.heap.size, 0, none⟩), .pointer (some ⟨w.heap.size + 1, 0, none⟩), .bool false, .pointer (some ⟨w.heap.size, 0, none⟩), .int .i64 a.origin, .pointer (some ⟨w.heap.size + 1, 0, none⟩), .int .i64 b.origin, .bool true, .bool true, .pointer (some ⟨w.heap.size, 2, none⟩), .string a.next, .pointer (some ⟨w.heap.size + 1, 2, none⟩), .string b.next, .bool true, .bool true, .bool true, .pointer (some ⟨w.heap.size, 3, none⟩), .bool a.hasMed, .pointer (some ⟨w.heap.size + 1, 3, none⟩), .bool b.hasMed, .bool true, .bool true, .bool true, .pointer (some ⟨w.heap.size, 4, none⟩), .int .u32 (a.med : Nat), .pointer (some ⟨w.heap.size + 1, 4, none⟩), .int .u32 (b.med : Nat), .bool true, .bool true, .bool true, .pointer (some ⟨w.heap.size, 5, none⟩), .bool a.hasPref, .pointer (some ⟨w.heap.size + 1, 5, none⟩), .bool b.hasPref, .bool true, .bool true, .bool true, .pointer (some ⟨w.heap.size, 6, none⟩), .int .u32 (a.pref : Nat), .pointer (some ⟨w.heap.size + 1, 6, none⟩), .int .u32 (b.pref : Nat), .bool true, .bool true, .bool true, .pointer (some ⟨w.heap.size, 7, none⟩), .bool a.atomic, .pointer (some ⟨w.heap.size + 1, 7, none⟩), .bool b.atomic, .bool false, .bool false, .bool false, undef, undef, undef, undef, undef, .bool false, .bool false, undef, undef, undef, undef, undef, .bool false, .bool false, undef, undef, undef, undef, undef, .bool false, .bool false, undef, undef, undef, undef, undef, .bool false, .bool false, undef, undef, undef, undef, undef, .bool false, .bool false, undef, undef, undef, undef, undef, .bool false, .bool false, undef, undef, undef, undef, undef, .bool false, .bool false, undef, undef, undef, undef, undef, .bool false, .bool false, undef, undef, undef, undef, undef, .bool false], defers := [] }) (by as_aux_lemma => kernel_rfl) ?_)
      go_ret
      exact ⟨by rw [HF.out]; rfl, HB0.out⟩
  have q6 : (a.atomic == b.atomic) = true := beq_iff_eq.2 q
  have n6 : (a.atomic != b.atomic) = false := by simp [q]
  have E6 := Lib.hid q
  clear q
  go_wp2_with (with_reducible show wpList _ _ _ (⟨some 53, _, _, _, _, _⟩ :: _) _ _; refine StopB ?_)
  refine StopA ?_
  by_cases q : a.aggAs = b.aggAs
  case neg =>
    have HF : Hid (r = false) := by show _ = _; rw [← HR.out]; exact decide_eq_false (fun e => q (by have := (AtC.eq_iff.2 e).2.2.2.2.2.2.2.1; exact this))
    clear HQp HQm HQx HQl HQk HR hlt hld HC0 HD0 HOA0 HOB0
    have q7 : ((a.aggAs : Int) == (b.aggAs : Int)) = false := beq_eq_false_iff_ne.2 (by omega)
    have n7 : ((a.aggAs : Int) != (b.aggAs : Int)) = true := by rw [bne, q7]; rfl
    clear q
    as_aux_lemma =>
      go_wp2_with (with_reducible show wpList _ _ _ (⟨some 61, _, _, _, _, _⟩ :: _) _ _; refine wpList_pure (a' := { tmps := #[.agg a.ar, .agg b.ar, .pointer (some ⟨w.heap.size, 0, none⟩), .pointer (some ⟨w.heap.size + 1, 0, none⟩), .bool false, .pointer (some ⟨w.heap.size, 0, none⟩), .int .i64 a.origin, .pointer (some ⟨w.heap.size + 1, 0, none⟩), .int .i64 b.origin, .bool true, .bool true, .pointer (some ⟨w.heap.size, 2, none⟩), .string a.next, .pointer (some ⟨w.heap.size + 1, 2, none⟩), .string b.next, .bool true, .bool true, .bool true, .pointer (some ⟨w.heap.size, 3, none⟩), .bool a.hasMed, .pointer (some ⟨w.heap.size + 1, 3, none⟩), .bool b.hasMed, .bool true, .bool true, .bool true, .pointer (some ⟨w.heap.size, 4, none⟩), .int .u32 (a.med : Nat), .pointer (some ⟨w.heap.size + 1, 4, none⟩), .int .u32 (b.med : Nat), .bool true, .bool true, .bool true, .pointer (some ⟨w.heap.size, 5, none⟩), .bool a.hasPref, .pointer (some ⟨w.heap.size + 1, 5, none⟩), .bool b.hasPref, .bool true, .bool true, .bool true, .pointer (some ⟨w.heap.size, 6, none⟩), .int .u32 (a.pref : Nat), .pointer (some ⟨w.heap.size + 1, 6, none⟩), .int .u32 (b.pref : Nat), .bool true, .bool true, .bool true, .pointer (some ⟨w.heap.size, 7, none⟩), .bool a.atomic, .pointer (some ⟨w.heap.size + 1, 7, none⟩), .bool b.atomic, .bool true, .bool true, .bool true, .pointer (some ⟨w.heap.size, 8, none⟩), .int .u32 (a.aggAs : Nat), .pointer (some ⟨w.heap.size + 1, 8, none⟩), .int .u32 (b.aggAs : Nat), .bool false, .bool false, .bool false, undef, undef, undef, undef, undef, .bool false, .bool false, undef, undef, undef, undef, undef, .bool false, .bool false, undef, undef, undef, undef, undef, .bool false, .bool false, undef, undef, undef, undef, undef, .bool false, .bool false, undef, undef, undef, undef, undef, .bool false, .bool false, undef, undef, undef, undef, undef, .bool false, .bool false, undef, undef, undef, undef, undef, .bool false, .bool false, undef, undef, undef, undef, undef, .bool false], defers := [] }) (by as_aux_lemma => kernel_rfl) ?_)
      go_ret
      exact ⟨by rw [HF.out]; rfl, HB0.out⟩
  have q7 : ((a.aggAs : Int) == (b.aggAs : Int)) = true := by rw [q]; simp
  have n7 : ((a.aggAs : Int) != (b.aggAs : Int)) = false := by rw [q]; simp
  have E7 := Lib.hid q
  clear q
  go_wp2_with (with_reducible show wpList _ _ _ (⟨some 60, _, _, _, _, _⟩ :: _) _ _; refine StopB ?_)
  refine StopA ?_
  by_cases q : a.aggId = b.aggId
  case neg =>
    have HF : Hid (r = false) := by show _ = _; rw [← HR.out]; exact decide_eq_false (fun e => q (by have := (AtC.eq_iff.2 e).2.2.2.2.2.2.2.2.1; exact this))
    clear HQp HQm HQx HQl HQk HR hlt hld HC0 HD0 HOA0 HOB0
    have q8 : ((a.aggId : Int) == (b.aggId : Int)) = false := beq_eq_false_iff_ne.2 (by omega)
    have n8 : ((a.aggId : Int) != (b.aggId : Int)) = true := by rw [bne, q8]; rfl
    clear q
    as_aux_lemma =>
      go_wp2_with (with_reducible show wpList _ _ _ (⟨some 68, _, _, _, _, _⟩ :: _) _ _; refine wpList_pure (a' := { tmps := #[.agg a.ar, .agg b.ar, .pointer (some ⟨w.heap.size, 0, none⟩), .pointer (some ⟨w.heap.size + 1, 0, none⟩), .bool false, .pointer (some ⟨w.heap.size, 0, none⟩), .int .i64 a.origin, .pointer (some ⟨w.heap.size + 1, 0, none⟩), .int .i64 b.origin, .bool true, .bool true, .pointer (some ⟨w.heap.size, 2, none⟩), .string a.next, .pointer (some ⟨w.heap.size + 1, 2, none⟩), .string b.next, .bool true, .bool true, .bool true, .pointer (some ⟨w.heap.size, 3, none⟩), .bool a.hasMed, .pointer (some ⟨w.heap.size + 1, 3, none⟩), .bool b.hasMed, .bool true, .bool true, .bool true, .pointer (some ⟨w.heap.size, 4, none⟩), .int .u32 (a.med : Nat), .pointer (some ⟨w.heap.size + 1, 4, none⟩), .int .u32 (b.med : Nat), .bool true, .bool true, .bool true, .pointer (some ⟨w.heap.size, 5, none⟩), .bool a.hasPref, .pointer (some ⟨w.heap.size + 1, 5, none⟩), .bool b.hasPref, .bool true, .bool true, .bool true, .pointer (some ⟨w.heap.size, 6, none⟩), .int .u32 (a.pref : Nat), .pointer (some ⟨w.heap.size + 1, 6, none⟩), .int .u32 (b.pref : Nat), .bool true, .bool true, .bool true, .pointer (some ⟨w.heap.size, 7, none⟩), .bool a.atomic, .pointer (some ⟨w.heap.size + 1, 7, none⟩), .bool b.atomic, .bool true, .bool true, .bool true, .pointer (some ⟨w.heap.size, 8, none⟩), .int .u32 (a.aggAs : Nat), .pointer (some ⟨w.heap.size + 1, 8, none⟩), .int .u32 (b.aggAs : Nat), .bool true, .bool true, .bool true, .pointer (some ⟨w.heap.size, 9, none⟩), .int .u32 (a.aggId : Nat), .pointer (some ⟨w.heap.size + 1, 9, none⟩), .int .u32 (b.aggId : Nat), .bool false, .bool false, .bool false, undef, undef, undef, undef, undef, .bool false, .bool false, undef, undef, undef, undef, undef, .bool false, .bool false, undef, undef, undef, undef, undef, .bool false, .bool false, undef, undef, undef, undef, undef, .bool false, .bool false, undef, undef, undef, undef, undef, .bool false, .bool false, undef, undef, undef, undef, undef, .bool false, .bool false, undef, undef, undef, undef, undef, .bool false], defers := [] }) (by as_aux_lemma => kernel_rfl) ?_)
      go_ret
      exact ⟨by rw [HF.out]; rfl, HB0.out⟩
  have q8 : ((a.aggId : Int) == (b.aggId : Int)) = true := by rw [q]; simp
  have n8 : ((a.aggId : Int) != (b.aggId : Int)) = false := by rw [q]; simp
  have E8 := Lib.hid q
  clear q
  go_wp2_with (with_reducible show wpList _ _ _ (⟨some 67, _, _, _, _, _⟩ :: _) _ _; refine StopB ?_)
  refine StopA ?_
  by_cases q : a.hasOrig = b.hasOrig
  case neg =>
    have HF : Hid (r = false) := by show _ = _; rw [← HR.out]; exact decide_eq_false (fun e => q (by have := (AtC.eq_iff.2 e).2.2.2.2.2.2.2.2.2.1; exact this))
    clear HQp HQm HQx HQl HQk HR hlt hld HC0 HD0 HOA0 HOB0
    have q9 : (a.hasOrig == b.hasOrig) = false := beq_eq_false_iff_ne.2 q
    have n9 : (a.hasOrig != b.hasOrig) = true := by rw [bne, q9]; rfl
    clear q
    as_aux_lemma =>
      go_wp2_with (with_reducible show wpList _ _ _ (⟨some 75, _, _, _, _, _⟩ :: _) _ _; refine wpList_pure (a' := { tmps := #[.agg a.ar, .agg b.ar, .pointer (some ⟨w.heap.size, 0, none⟩), .pointer (some ⟨w.heap.size + 1, 0, none⟩), .bool false, .pointer (some ⟨w.heap.size, 0, none⟩), .int .i64 a.origin, .pointer (some ⟨w.heap.size + 1, 0, none⟩), .int .i64 b.origin, .bool true, .bool true, .pointer (some ⟨w.heap.size, 2, none⟩), .string a.next, .pointer (some ⟨w.heap.size + 1, 2, none⟩), .string b.next, .bool true, .bool true, .bool true, .pointer (some ⟨w.heap.size, 3, none⟩), .bool a.hasMed, .pointer (some ⟨w.heap.size + 1, 3, none⟩), .bool b.hasMed, .bool true, .bool true, .bool true, .pointer (some ⟨w.heap.size, 4, none⟩), .int .u32 (a.med : Nat), .pointer (some ⟨w.heap.size + 1, 4, none⟩), .int .u32 (b.med : Nat), .bool true, .bool true, .bool true, .pointer (some ⟨w.heap.size, 5, none⟩), .bool a.hasPref, .pointer (some ⟨w.heap.size + 1, 5, none⟩), .bool b.hasPref, .bool true, .bool true, .bool true, .pointer (some ⟨w.heap.size, 6, none⟩), .int .u32 (a.pref : Nat), .pointer (some ⟨w.heap.size + 1, 6, none⟩), .int .u32 (b.pref : Nat), .bool true, .bool true, .bool true, .pointer (some ⟨w.heap.size, 7, none⟩), .bool a.atomic, .pointer (some ⟨w.heap.size + 1, 7, none⟩), .bool b.atomic, .bool true, .bool true, .bool true, .pointer (some ⟨w.heap.size, 8, none⟩), .int .u32 (a.aggAs : Nat), .pointer (some ⟨w.heap.size + 1, 8, none⟩), .int .u32 (b.aggAs : Nat), .bool true, .bool true, .bool true, .pointer (some ⟨w.heap.size, 9, none⟩), .int .u32 (a.aggId : Nat), .pointer (some ⟨w.heap.size + 1, 9, none⟩), .int .u32 (b.aggId : Nat), .bool true, .bool true, .bool true, .pointer (some ⟨w.heap.size, 13, none⟩), .bool a.hasOrig, .pointer (some ⟨w.heap.size + 1, 13, none⟩), .bool b.hasOrig, .bool false, .bool false, .bool false, undef, undef, undef, undef, undef, .bool false, .bool false, undef, undef, undef, undef, undef, .bool false, .bool false, undef, undef, undef, undef, undef, .bool false, .bool false, undef, undef, undef, undef, undef, .bool false, .bool false, undef, undef, undef, undef, undef, .bool false, .bool false, undef, undef, undef, undef, undef, .bool false], defers := [] }) (by as_aux_lemma => kernel_rfl) ?_)
      go_ret
      exact ⟨by rw [HF.out]; rfl, HB0.out⟩
  have q9 : (a.hasOrig == b.hasOrig) = true := beq_iff_eq.2 q
  have n9 : (a.hasOrig != b.hasOrig) = false := by simp [q]
  have E9 := Lib.hid q
  clear q
  go_wp2_with (with_reducible show wpList _ _ _ (⟨some 74, _, _, _, _, _⟩ :: _) _ _; refine StopB ?_)
  refine StopA ?_
  by_cases q : a.orig = b.orig
  case neg =>
    have HF : Hid (r = false) := by show _ = _; rw [← HR.out]; exact decide_eq_false (fun e => q (by have := (AtC.eq_iff.2 e).2.2.2.2.2.2.2.2.2.2.1; exact this))
    clear HQp HQm HQx HQl HQk HR hlt hld HC0 HD0 HOA0 HOB0
    have q10 : ((a.orig : Int) == (b.orig : Int)) = false := beq_eq_false_iff_ne.2 (by omega)
    have n10 : ((a.orig : Int) != (b.orig : Int)) = true := by rw [bne, q10]; rfl
    clear q
    as_aux_lemma =>
      go_wp2_with (with_reducible show wpList _ _ _ (⟨some 82, _, _, _, _, _⟩ :: _) _ _; refine wpList_pure (a' := { tmps := #[.agg a.ar, .agg b.ar, .pointer (some ⟨w.heap.size, 0, none⟩), .pointer (some ⟨w.heap.size + 1, 0, none⟩), .bool false, .pointer (some ⟨w.heap.size, 0, none⟩), .int .i64 a.origin, .pointer (some ⟨w.heap.size + 1, 0, none⟩), .int .i64 b.origin, .bool true, .bool true, .pointer (some ⟨w.heap.size, 2, none⟩), .string a.next, .pointer (some ⟨w.heap.size + 1, 2, none⟩), .string b.next, .bool true, .bool true, .bool true, .pointer (some ⟨w.heap.size, 3, none⟩), .bool a.hasMed, .pointer (some ⟨w.heap.size + 1, 3, none⟩), .bool b.hasMed, .bool true, .bool true, .bool true, .pointer (some ⟨w.heap.size, 4, none⟩), .int .u32 (a.med : Nat), .pointer (some ⟨w.heap.size + 1, 4, none⟩), .int .u32 (b.med : Nat), .bool true, .bool true, .bool true, .pointer (some ⟨w.heap.size, 5, none⟩), .bool a.hasPref, .pointer (some ⟨w.heap.size + 1, 5, none⟩), .bool b.hasPref, .bool true, .bool true, .bool true, .pointer (some ⟨w.heap.size, 6, none⟩), .int .u32 (a.pref : Nat), .pointer (some ⟨w.heap.size + 1, 6, none⟩), .int .u32 (b.pref : Nat), .bool true, .bool true, .bool true, .pointer (some ⟨w.heap.size, 7, none⟩), .bool a.atomic, .pointer (some ⟨w.heap.size + 1, 7, none⟩), .bool b.atomic, .bool true, .bool true, .bool true, .pointer (some ⟨w.heap.size, 8, none⟩), .int .u32 (a.aggAs : Nat), .pointer (some ⟨w.heap.size + 1, 8, none⟩), .int .u32 (b.aggAs : Nat), .bool true, .bool true, .bool true, .pointer (some ⟨w.heap.size, 9, none⟩), .int .u32 (a.aggId : Nat), .pointer (some ⟨w.heap.size + 1, 9, none⟩), .int .u32 (b.aggId : Nat), .bool true, .bool true, .bool true, .pointer (some ⟨w.heap.size, 13, none⟩), .bool a.hasOrig, .pointer (some ⟨w.heap.size + 1, 13, none⟩), .bool b.hasOrig, .bool true, .bool true, .bool true, .pointer (some ⟨w.heap.size, 14, none⟩), .int .u32 (a.orig : Nat), .pointer (some ⟨w.heap.size + 1, 14, none⟩), .int .u32 (b.orig : Nat), .bool false, .bool false, .bool false, undef, undef, undef, undef, undef, .bool false, .bool false, undef, undef, undef, undef, undef, .bool false, .bool false, undef, undef, undef, undef, undef, .bool false, .bool false, undef, undef, undef, undef, undef, .bool false, .bool false, undef, undef, undef, undef, undef, .bool false], defers := [] }) (by as_aux_lemma => kernel_rfl) ?_)
      go_ret
      exact ⟨by rw [HF.out]; rfl, HB0.out⟩
  have q10 : ((a.orig : Int) == (b.orig : Int)) = true := by rw [q]; simp
  have n10 : ((a.orig : Int) != (b.orig : Int)) = false := by rw [q]; simp
  have E10 := Lib.hid q
  clear q
  by_cases q : a.segs.map Sg.c = b.segs.map Sg.c
  case neg =>
    have HF : Hid (r = false) := by show _ = _; rw [← HR.out]; exact decide_eq_false (fun e => q (by have := (AtC.eq_iff.2 e).2.2.2.2.2.2.2.2.2.2.2.1; exact this))
    rw [decide_eq_false q] at HQp
    clear q
    as_aux_lemma =>
      go_wp2_with fail
      refine (HQp.out _ HOA0.out HOB0.out).mono ?_
      rintro e v1 ⟨rfl, hb⟩
      have HB1 : Hid (Below w.heap.size w v1) := HB0.out.trans (hb.mono HB0.out.size)
      clear hb c0 c1 c2 c3 c4 c5 c6 c7 c8 c9 c10 c11 c12 c13 c14 c15 d0 d1 d2 d3 d4 d5 d6 d7 d8 d9 d10 d11 d12 d13 d14 d15
      go_wp2_with fail
      go_ret
      exact ⟨by rw [HF.out]; rfl, HB1.out⟩
  have E11 := Lib.hid q
  rw [decide_eq_true q] at HQp
  clear q
  go_wp2_with fail
  refine (HQp.out _ HOA0.out HOB0.out).mono ?_
  rintro e v1 ⟨rfl, hb⟩
  have HB1 : Hid (Below w.heap.size w v1) := HB0.out.trans (hb.mono HB0.out.size)
  have HC1 : Hid (CellsAt v1 w.heap.size a.ar 33) := HC0.out.below hb HC0.out.lt
  have HD1 : Hid (CellsAt v1 (w.heap.size + 1) b.ar 33) := HD0.out.below hb HD0.out.lt
  have HOA1 : Hid (AtrOk v1 a) := HOA0.out.below hb (Nat.le_refl _)
  have HOB1 : Hid (AtrOk v1 b) := HOB0.out.below hb (Nat.le_refl _)
  clear hb c0 c1 c2 c3 c4 c5 c6 c7 c8 c9 c10 c11 c12 c13 c14 c15 d0 d1 d2 d3 d4 d5 d6 d7 d8 d9 d10 d11 d12 d13 d14 d15
  obtain ⟨c0, c1, c2, c3, c4, c5, c6, c7, c8, c9, c10, c11, c12, c13, c14, c15⟩ := atr_cells HC1.out
  obtain ⟨d0, d1, d2, d3, d4, d5, d6, d7, d8, d9, d10, d11, d12, d13, d14, d15⟩ := atr_cells HD1.out
  by_cases q : a.comms = b.comms
  case neg =>
    have HF : Hid (r = false) := by show _ = _; rw [← HR.out]; exact decide_eq_false (fun e => q (by have := (AtC.eq_iff.2 e).2.2.2.2.2.2.2.2.2.2.2.2.1; exact this))
    rw [decide_eq_false q] at HQm
    clear q
    as_aux_lemma =>
      go_wp2_with fail
      refine (HQm.out _ HOA1.out HOB1.out).mono ?_
      rintro e v2 ⟨rfl, hb⟩
      have HB2 : Hid (Below w.heap.size w v2) := HB1.out.trans (hb.mono HB1.out.size)
      clear hb c0 c1 c2 c3 c4 c5 c6 c7 c8 c9 c10 c11 c12 c13 c14 c15 d0 d1 d2 d3 d4 d5 d6 d7 d8 d9 d10 d11 d12 d13 d14 d15
      go_wp2_with fail
      go_ret
      exact ⟨by rw [HF.out]; rfl, HB2.out⟩
  have E12 := Lib.hid q
  rw [decide_eq_true q] at HQm
  clear q
  go_wp2_with fail
  refine (HQm.out _ HOA1.out HOB1.out).mono ?_
  rintro e v2 ⟨rfl, hb⟩
  have HB2 : Hid (Below w.heap.size w v2) := HB1.out.trans (hb.mono HB1.out.size)
  have HC2 : Hid (CellsAt v2 w.heap.size a.ar 33) := HC1.out.below hb HC1.out.lt
  have HD2 : Hid (CellsAt v2 (w.heap.size + 1) b.ar 33) := HD1.out.below hb HD1.out.lt
  have HOA2 : Hid (AtrOk v2 a) := HOA1.out.below hb (Nat.le_refl _)
  have HOB2 : Hid (AtrOk v2 b) := HOB1.out.below hb (Nat.le_refl _)
  clear hb c0 c1 c2 c3 c4 c5 c6 c7 c8 c9 c10 c11 c12 c13 c14 c15 d0 d1 d2 d3 d4 d5 d6 d7 d8 d9 d10 d11 d12 d13 d14 d15
  obtain ⟨c0, c1, c2, c3, c4, c5, c6, c7, c8, c9, c10, c11, c12, c13, c14, c15⟩ := atr_cells HC2.out
  obtain ⟨d0, d1, d2, d3, d4, d5, d6, d7, d8, d9, d10, d11, d12, d13, d14, d15⟩ := atr_cells HD2.out
  by_cases q : a.exts = b.exts
  case neg =>
    have HF : Hid (r = false) := by show _ = _; rw [← HR.out]; exact decide_eq_false (fun e => q (by have := (AtC.eq_iff.2 e).2.2.2.2.2.2.2.2.2.2.2.2.2.1; exact this))
    rw [decide_eq_false q] at HQx
    clear q
    as_aux_lemma =>
      go_wp2_with fail
      refine (HQx.out _ HOA2.out HOB2.out).mono ?_
      rintro e v3 ⟨rfl, hb⟩
      have HB3 : Hid (Below w.heap.size w v3) := HB2.out.trans (hb.mono HB2.out.size)
      clear hb c0 c1 c2 c3 c4 c5 c6 c7 c8 c9 c10 c11 c12 c13 c14 c15 d0 d1 d2 d3 d4 d5 d6 d7 d8 d9 d10 d11 d12 d13 d14 d15
      go_wp2_with fail
      go_ret
      exact ⟨by rw [HF.out]; rfl, HB3.out⟩
  have E13 := Lib.hid q
  rw [decide_eq_true q] at HQx
  clear q
  go_wp2_with fail
  refine (HQx.out _ HOA2.out HOB2.out).mono ?_
  rintro e v3 ⟨rfl, hb⟩
  have HB3 : Hid (Below w.heap.size w v3) := HB2.out.trans (hb.mono HB2.out.size)
  have HC3 : Hid (CellsAt v3 w.heap.size a.ar 33) := HC2.out.below hb HC2.out.lt
  have HD3 : Hid (CellsAt v3 (w.heap.size + 1) b.ar 33) := HD2.out.below hb HD2.out.lt
  have HOA3 : Hid (AtrOk v3 a) := HOA2.out.below hb (Nat.le_refl _)
  have HOB3 : Hid (AtrOk v3 b) := HOB2.out.below hb (Nat.le_refl _)
  clear hb c0 c1 c2 c3 c4 c5 c6 c7 c8 c9 c10 c11 c12 c13 c14 c15 d0 d1 d2 d3 d4 d5 d6 d7 d8 d9 d10 d11 d12 d13 d14 d15
  obtain ⟨c0, c1, c2, c3, c4, c5, c6, c7, c8, c9, c10, c11, c12, c13, c14, c15⟩ := atr_cells HC3.out
  obtain ⟨d0, d1, d2, d3, d4, d5, d6, d7, d8, d9, d10, d11, d12, d13, d14, d15⟩ := atr_cells HD3.out
  by_cases q : a.larges = b.larges
  case neg =>
    have HF : Hid (r = false) := by show _ = _; rw [← HR.out]; exact decide_eq_false (fun e => q (by have := (AtC.eq_iff.2 e).2.2.2.2.2.2.2.2.2.2.2.2.2.2.1; exact this))
    rw [decide_eq_false q] at HQl
    clear q
    as_aux_lemma =>
      go_wp2_with fail
      refine (HQl.out _ HOA3.out HOB3.out).mono ?_
      rintro e v4 ⟨rfl, hb⟩
      have HB4 : Hid (Below w.heap.size w v4) := HB3.out.trans (hb.mono HB3.out.size)
      clear hb c0 c1 c2 c3 c4 c5 c6 c7 c8 c9 c10 c11 c12 c13 c14 c15 d0 d1 d2 d3 d4 d5 d6 d7 d8 d9 d10 d11 d12 d13 d14 d15
      go_wp2_with fail
      go_ret
      exact ⟨by rw [HF.out]; rfl, HB4.out⟩
  have E14 := Lib.hid q
  rw [decide_eq_true q] at HQl
  clear q
  go_wp2_with fail
  refine (HQl.out _ HOA3.out HOB3.out).mono ?_
  rintro e v4 ⟨rfl, hb⟩
  have HB4 : Hid (Below w.heap.size w v4) := HB3.out.trans (hb.mono HB3.out.size)
  have HC4 : Hid (CellsAt v4 w.heap.size a.ar 33) := HC3.out.below hb HC3.out.lt
  have HD4 : Hid (CellsAt v4 (w.heap.size + 1) b.ar 33) := HD3.out.below hb HD3.out.lt
  have HOA4 : Hid (AtrOk v4 a) := HOA3.out.below hb (Nat.le_refl _)
  have HOB4 : Hid (AtrOk v4 b) := HOB3.out.below hb (Nat.le_refl _)
  clear hb c0 c1 c2 c3 c4 c5 c6 c7 c8 c9 c10 c11 c12 c13 c14 c15 d0 d1 d2 d3 d4 d5 d6 d7 d8 d9 d10 d11 d12 d13 d14 d15
  obtain ⟨c0, c1, c2, c3, c4, c5, c6, c7, c8, c9, c10, c11, c12, c13, c14, c15⟩ := atr_cells HC4.out
  obtain ⟨d0, d1, d2, d3, d4, d5, d6, d7, d8, d9, d10, d11, d12, d13, d14, d15⟩ := atr_cells HD4.out
  by_cases q : a.clus = b.clus
  case neg =>
    have HF : Hid (r = false) := by show _ = _; rw [← HR.out]; exact decide_eq_false (fun e => q (by have := (AtC.eq_iff.2 e).2.2.2.2.2.2.2.2.2.2.2.2.2.2.2; exact this))
    rw [decide_eq_false q] at HQk
    clear q
    as_aux_lemma =>
      go_wp2_with fail
      refine (HQk.out _ HOA4.out HOB4.out).mono ?_
      rintro e v5 ⟨rfl, hb⟩
      have HB5 : Hid (Below w.heap.size w v5) := HB4.out.trans (hb.mono HB4.out.size)
      clear hb c0 c1 c2 c3 c4 c5 c6 c7 c8 c9 c10 c11 c12 c13 c14 c15 d0 d1 d2 d3 d4 d5 d6 d7 d8 d9 d10 d11 d12 d13 d14 d15
      go_wp2_with fail
      go_ret
      exact ⟨by rw [HF.out]; rfl, HB5.out⟩
  have E15 := Lib.hid q
  rw [decide_eq_true q] at HQk
  clear q
  go_wp2_with fail
  refine (HQk.out _ HOA4.out HOB4.out).mono ?_
  rintro e v5 ⟨rfl, hb⟩
  have HB5 : Hid (Below w.heap.size w v5) := HB4.out.trans (hb.mono HB4.out.size)
  have HC5 : Hid (CellsAt v5 w.heap.size a.ar 33) := HC4.out.below hb HC4.out.lt
  have HD5 : Hid (CellsAt v5 (w.heap.size + 1) b.ar 33) := HD4.out.below hb HD4.out.lt
  have HOA5 : Hid (AtrOk v5 a) := HOA4.out.below hb (Nat.le_refl _)
  have HOB5 : Hid (AtrOk v5 b) := HOB4.out.below hb (Nat.le_refl _)
  clear hb c0 c1 c2 c3 c4 c5 c6 c7 c8 c9 c10 c11 c12 c13 c14 c15 d0 d1 d2 d3 d4 d5 d6 d7 d8 d9 d10 d11 d12 d13 d14 d15
  obtain ⟨c0, c1, c2, c3, c4, c5, c6, c7, c8, c9, c10, c11, c12, c13, c14, c15⟩ := atr_cells HC5.out
  obtain ⟨d0, d1, d2, d3, d4, d5, d6, d7, d8, d9, d10, d11, d12, d13, d14, d15⟩ := atr_cells HD5.out
  have HT : Hid (r = true) := by show _ = _; rw [← HR.out]; exact decide_eq_true (AtC.eq_iff.1 ⟨E0.out, E1.out, E2.out, E3.out, E4.out, E5.out, E6.out, E7.out, E8.out, E9.out, E10.out, E11.out, E12.out, E13.out, E14.out, E15.out⟩)
  go_wp2_with fail
  go_ret
  exact ⟨by rw [HT.out]; rfl, HB5.out⟩

theorem noAtr_c : noAtr.c = noC := rfl
theorem next_ok (g : Cfg) (p : Pth) (t : Pr) : nextOk (nextF g p t) = true := by
  unfold nextF nextOk
  split
  · rename_i h
    obtain ⟨_, _, h3⟩ := h
    rcases famSize_cases p.n.fam with e | e | e <;> rw [e] at h3
    · have h4 : p.a.next.size = 0 := by omega
      rw [h4]; rfl
    · have h4 : p.a.next.size = 4 := by omega
      rw [h4]; rfl
    · have h4 : p.a.next.size = 16 := by omega
      rw [h4]; rfl
  · split
    · rfl
    · rename_i h
      have h4 : g.addr.size = 4 := by
        by_cases e : g.addr.size = 4
        · exact e
        · exact absurd (Or.inr e) h
      split
      · rw [ByteArray.size_append, h4]; rfl
      · rw [h4]; rfl
/-- what is told inside -/
structure InC (g : Cfg) (p : Pth) (C : AtC) : Prop where
  ok : atOk C = true
  hasPref : C.hasPref = true
  pref : C.pref = if p.a.hasPref = true then p.a.pref else 100
  path : C.path = p.a.c.path
  out : p.kind ≠ 4 → p.kind ≠ 5 → C.hasOrig = p.a.hasOrig ∧ C.clus = p.a.clus
  refl : p.kind = 4 ∨ p.kind = 5 → C.hasOrig = true ∧ C.orig = (if p.a.hasOrig = true then p.a.orig else p.sid) ∧ C.clus = (if g.cluster = 0 then g.id else g.cluster) :: p.a.clus ∧ p.a.clus.length < 32
theorem inside_facts (g : Cfg) (p : Pth) (t : Pr) (h : t.as_ = g.as_) (he : (attrsF g p t).2 = 0) : InC g p (attrsF g p t).1 := by
  have hk2 : kindOf g t ≠ 2 ∧ kindOf g t ≠ 3 := by
    unfold kindOf kindF
    rw [if_pos h]
    split <;> decide
  have hturn : turnF g p t = inF g (p.kind == 4 || p.kind == 5) p.sid { p.a.c with next := nextF g p t } := by
    unfold turnF
    rw [if_neg hk2.1, if_neg hk2.2]
  unfold attrsF at he ⊢
  by_cases h1 : mayPathF p = false ∨ (nextF g p t).size = 0
  · rw [if_pos h1] at he
    cases he
  rw [if_neg h1] at he ⊢
  by_cases h2 : (turnF g p t).2 ≠ 0
  · rw [if_pos h2] at he
    exact absurd he h2
  rw [if_neg h2]
  have hok : atOk p.a.c = true := by
    have h3 : mayPathF p = true := by
      cases hm : mayPathF p with
      | true => rfl
      | false => exact absurd (Or.inl hm) h1
    unfold mayPathF at h3
    simp only [Bool.and_eq_true] at h3
    exact h3.1.2
  have hN := next_ok g p t
  rw [hturn] at h2 ⊢
  generalize nextF g p t = N at hN h2 ⊢
  simp only [atOk, spareOk, listsOk, Bool.and_eq_true, Bool.or_eq_true, decide_eq_true_eq] at hok
  obtain ⟨⟨⟨⟨⟨o1, o2⟩, o3⟩, o4⟩, ⟨⟨o5, o6⟩, o7⟩, o8⟩, ⟨⟨o9, o10⟩, o11⟩, o12⟩ := hok
  unfold inF at h2 ⊢
  cases hr : (p.kind == 4 || p.kind == 5) with
  | false =>
    rw [hr] at h2
    have hn : p.kind ≠ 4 ∧ p.kind ≠ 5 := by
      simp only [Bool.or_eq_false_iff, beq_eq_false_iff_ne] at hr
      exact hr
    rw [if_pos rfl]
    refine ⟨?_, rfl, rfl, rfl, fun _ _ => ⟨rfl, rfl⟩, fun h => by rcases h with h | h; exact absurd h hn.1; exact absurd h hn.2⟩
    simp only [atOk, spareOk, listsOk, prefF, Bool.and_eq_true, Bool.or_eq_true, decide_eq_true_eq]
    exact ⟨⟨⟨⟨⟨o1, o2⟩, o3⟩, hN⟩, ⟨⟨o5, Or.inl trivial⟩, o7⟩, o8⟩, ⟨⟨o9, o10⟩, o11⟩, o12⟩
  | true =>
    rw [hr] at h2
    rw [if_neg (by simp)] at h2 ⊢
    by_cases h32 : 32 ≤ p.a.clus.length
    · rw [if_pos (show 32 ≤ ({ p.a.c with next := N } : AtC).clus.length from h32)] at h2
      exact absurd (show (3 : Int) ≠ 0 by decide) h2
    rw [if_neg (show ¬ 32 ≤ ({ p.a.c with next := N } : AtC).clus.length from h32)] at h2 ⊢
    refine ⟨?_, rfl, rfl, rfl, fun h4 h5 => ?_, fun _ => ⟨rfl, rfl, rfl, by omega⟩⟩
    · simp only [atOk, spareOk, listsOk, prefF, Bool.and_eq_true, Bool.or_eq_true, decide_eq_true_eq]
      exact ⟨⟨⟨⟨⟨o1, o2⟩, o3⟩, hN⟩, ⟨⟨o5, Or.inl trivial⟩, Or.inl trivial⟩, o8⟩, ⟨⟨by show p.a.clus.length + 1 ≤ 32; omega, o10⟩, o11⟩, o12⟩
    · simp only [Bool.or_eq_true, beq_iff_eq] at hr
      rcases hr with hr | hr
      · exact absurd hr h4
      · exact absurd hr h5
theorem attrsF_errI (g : Cfg) (p : Pth) (t : Pr) (h : ((attrsF g p t).2 == 0) = false) : (attrsF g p t).1 = noC := by
  unfold attrsF at h ⊢
  split
  · rfl
  · rename_i h1
    rw [if_neg h1] at h
    split
    · rfl
    · rename_i h2
      rw [if_neg h2] at h
      cases h
set_option maxRecDepth 100000 in
set_option maxHeartbeats 32000000 in
theorem exportinside_walk (g : Cfg) (p : Pth) (t : Pr) (w : World) (hg : g.Ok) (hp : PthOk w p) (ht : PrOk w t) : Calls Tryz.prog 7 #[.agg g.us, .agg p.ar, .agg t.ar] w fun e w' => e = .returned (.bool true) ∧ Below w.heap.size w w' := by
  have HWK := Lib.hid works_any
  have HCF := Lib.hid (conf_any g)
  obtain ⟨t3, ht3⟩ : ∃ x : Pr, x = { t with as_ := g.as_ } := ⟨_, rfl⟩
  have e3 : Hid (t.ar.setIfInBounds 6 (.int .u32 (g.as_ : Nat)) = t3.ar) := by rw [ht3]; rfl
  have q3 : PrOk w t3 := by rw [ht3]; exact { ht with as_ := hg.as_ }
  obtain ⟨RC, hRC⟩ : ∃ x, x = (attrsF g p t3).1 := ⟨_, rfl⟩
  obtain ⟨E, hE⟩ : ∃ x, x = (attrsF g p t3).2 := ⟨_, rfl⟩
  have HAT : Hid (∀ W, Below w.heap.size w W → Calls Tryz.prog 15 #[.agg g.ar, .agg p.ar, .agg t3.ar] W fun e w' => ∃ a' : Atr, e = .returned (.tuple #[.agg a'.ar, .int .i64 E]) ∧ AtO w' W.heap.size a' ∧ a'.c = RC ∧ Below W.heap.size W w') := fun W hW => by
    rw [hRC, hE]
    exact attrs_any g p t3 W hg (hp.below hW (Nat.le_refl _)) (q3.below hW (Nat.le_refl _))
  have HER : Hid ((E == 0) = false → RC = noC) := by rw [hRC, hE]; exact attrsF_errI g p t3
  have HIN : Hid (E = 0 → InC g p RC) := by rw [hRC, hE]; exact inside_facts g p t3 (by rw [ht3])
  have HSZ : Hid (∀ (W : World) (x : Atr), AtrOk W x → x.c = noC → Calls Tryz.prog 25 #[.agg x.ar, .agg noAtr.ar] W fun e w' => e = .returned (.bool true) ∧ Below W.heap.size W w') := fun W x h1 hc => by
    have h := same_any x noAtr W h1 (noAtr_own W 0).ok
    rwa [decide_eq_true (hc.trans noAtr_c.symm)] at h
  have HCK : Hid (∀ (W : World) (x : Atr), AtrOk W x → atOk x.c = true → Calls Tryz.prog 26 #[.agg x.ar] W fun e w' => e = .returned (.int .i64 0) ∧ Below W.heap.size W w') := fun W x h1 hc => by
    have h := check_any x W h1
    rwa [hc] at h
  have HPS : Hid (∀ (W : World) (x : Atr), AtrOk W x → Below w.heap.size w W → x.c.path = p.a.c.path → Calls Tryz.prog 24 #[.slice x.pA x.segs.length x.pC, .slice p.a.pA p.a.segs.length p.a.pC] W fun e w' => e = .returned (.bool true) ∧ Below W.heap.size W w') := fun W x h1 h2 hc => by
    have h := psame_any x.pA p.a.pA x.pC p.a.pC x.segs p.a.segs W h1.path (hp.a.below h2 (Nat.le_refl _)).path
    rwa [decide_eq_true (show x.segs.map Sg.c = p.a.segs.map Sg.c from hc)] at h
  have hpl := hp.a.plen
  have hpc : p.a.pC ≤ 9223372036854775807 := hp.a.pcap
  have hkl := hp.a.klen
  have hkc : p.a.kC ≤ 9223372036854775807 := hp.a.kcap
  clear hRC hE ht3 q3 hg hp ht
  go_enter Tryz.func7, Tryz.ntmps7
  go_upto_region 1 with fail
  refine rb_name fun V0 hV0 => ?_
  have hbx := Bu.start w g p t
  obtain ⟨s, hs⟩ : ∃ s, s = w.heap.size := ⟨_, rfl⟩
  have HB0 : Hid (Bu w V0 s g p t) := by rw [hV0, hs]; exact hbx
  have HS : Hid (s = w.heap.size) := hs
  rw [← hs]
  clear hV0 hbx hs
  go_wp2_with fail
  refine (HWK.out _).mono ?_
  rintro e w1 ⟨rfl, hb⟩
  have HB1 : Hid (Bu w w1 s g p t) := HB0.out.below hb
  clear hb HB0
  go_wp2_with (with_reducible show wpList _ _ _ (_ :: _) _ _; refine wpList_load_row (by kernel_rfl) 24 (.tmp 3) rfl s 0 rfl g.us (whole_range HB1.out.c) usS 5 usZ rfl ?_)
  refine (HCF.out _).mono ?_
  rintro e w2 ⟨rfl, hb⟩
  have HB2 : Hid (Bu w w2 s g p t) := HB1.out.below hb
  clear hb HB1
  go_upto_region 4 with (with_reducible show wpList _ _ _ (_ :: _) _ _; refine wpList_new_row rfl _ (.tmp 7) (.tmp 14) rfl rfl g.ar rfl 13 confZ rfl rfl (cfg_ones g) ?_)
  intro V3 HK7 HB3
  obtain ⟨k7, hk7⟩ : ∃ k, k = w2.heap.size := ⟨_, rfl⟩
  rw [← hk7] at HK7
  have L7 : Hid (s + 1 + 1 < k7) := by rw [hk7]; exact HB2.out.sz
  have HB4 : Hid (Bu w V3 s g p t) := HB2.out.below HB3.out
  rw [← hk7]
  clear hk7 HB2 HB3
  have c1 : V3.cell? ⟨s, 0, none⟩ = some (.int .u32 (g.as_ : Nat)) := (HB4.out.c.c 0).trans rfl
  have c2 : V3.cell? ⟨s + 1 + 1, 6, none⟩ = some (.int .u32 (t.as_ : Nat)) := (HB4.out.t.c 6).trans rfl
  have c3 : V3.frozen? ⟨s + 1 + 1, 6, none⟩ = false := HB4.out.t.unfrozen 6
  go_upto_region 5 with fail
  refine rb_name fun V4 hV4 => ?_
  have HB5 : Hid (Bu w V4 s g p t3) := by rw [hV4]; exact HB4.out.setT _ _ t3 e3.out
  have HC5 : Hid (CellsAt V4 k7 g.ar 49) := by rw [hV4]; exact HK7.out.setX (Nat.ne_of_gt L7.out) _
  clear hV4 c1 c2 c3 HB4 HK7
  go_wp2_with (with_reducible show wpList _ _ _ (_ :: _) _ _; first | refine wpList_load_conf (by kernel_rfl) (.tmp 7) rfl k7 rfl g (Lib.hid HC5.out) ?_ | refine wpList_load_path (by kernel_rfl) (.tmp 4) rfl (s + 1) rfl p (Lib.hid HB5.out.p) ?_ | refine wpList_load_peer (by kernel_rfl) (.tmp 5) rfl (s + 1 + 1) rfl t3 (Lib.hid HB5.out.t) ?_)
  refine (HAT.out _ HB5.out.b).mono ?_
  rintro e w6 ⟨x, rfl, ho, hc, hb⟩
  have HC := Lib.hid hc
  have HO : Hid (AtrOk w6 x) := ho.ok
  have HB6 : Hid (Bu w w6 s g p t3) := HB5.out.below hb
  clear ho hc hb HB5 HC5
  go_upto_region 6 with (with_reducible show wpList _ _ _ (_ :: _) _ _; refine wpList_new_row rfl _ (.tmp 8) (.tmp 23) rfl rfl x.ar rfl 16 atZ rfl rfl (attrs_ones x) ?_)
  intro V7 HK8 HB
  obtain ⟨k8, hk8⟩ : ∃ k, k = w6.heap.size := ⟨_, rfl⟩
  rw [← hk8] at HK8
  have HB7 : Hid (Bu w V7 s g p t3) := HB6.out.below HB.out
  have HO7 : Hid (AtrOk V7 x) := HO.out.below HB.out (Nat.le_refl _)
  rw [← hk8]
  clear hk8 HB HB6 HO
  rcases beq_factsY E 0 with ⟨j1, j2⟩ | ⟨j1, j2⟩
  case inr =>
    have HNO : Hid (x.c = noC) := HC.out.trans (HER.out j2)
    have j3 : (E != 0) = true := bne_iff_ne.2 j1
    go_wp2_with (with_reducible show wpList _ _ _ (_ :: _) _ _; refine wpList_load_attrs (by kernel_rfl) (.tmp 8) rfl k8 rfl x HK8.out ?_)
    refine (HSZ.out _ x HO7.out HNO.out).mono ?_
    rintro e w8 ⟨rfl, hb⟩
    have HB8 : Hid (Bu w w8 s g p t3) := HB7.out.below hb
    clear hb
    go_wp2_with fail
    go_ret
    exact ⟨rfl, HB8.out.b⟩
  have HI : Hid (InC g p x.c) := by show InC g p x.c; rw [HC.out]; exact HIN.out j1
  subst j1
  clear j2 HIN HER
  go_wp2_with (with_reducible show wpList _ _ _ (_ :: _) _ _; refine wpList_load_attrs (by kernel_rfl) (.tmp 8) rfl k8 rfl x HK8.out ?_)
  refine (HCK.out _ x HO7.out HI.out.ok).mono ?_
  rintro e w8 ⟨rfl, hb⟩
  have HB8 : Hid (Bu w w8 s g p t3) := HB7.out.below hb
  have HK9 : Hid (CellsAt w8 k8 x.ar 33) := HK8.out.below hb HK8.out.lt
  have HO8 : Hid (AtrOk w8 x) := HO7.out.below hb (Nat.le_refl _)
  clear hb HB7 HK8 HO7
  have c5 : w8.cell? ⟨k8, 5, none⟩ = some (.bool true) := by rw [show true = x.hasPref from HI.out.hasPref.symm]; exact (HK9.out.c 5).trans rfl
  have c1 : w8.cell? ⟨k8, 1, none⟩ = some (.slice x.pA x.segs.length x.pC) := (HK9.out.c 1).trans rfl
  have d7 : w8.cell? ⟨s + 1, 7, none⟩ = some (.slice p.a.pA p.a.segs.length p.a.pC) := (HB8.out.p.c 7).trans rfl
  have d11 : w8.cell? ⟨s + 1, 11, none⟩ = some (.bool p.a.hasPref) := (HB8.out.p.c 11).trans rfl
  have d12 : w8.cell? ⟨s + 1, 12, none⟩ = some (.int .u32 (p.a.pref : Nat)) := (HB8.out.p.c 12).trans rfl
  have c6 : w8.cell? ⟨k8, 6, none⟩ = some (.int .u32 ((if p.a.hasPref = true then p.a.pref else 100 : Nat) : Nat)) := by rw [← HI.out.pref]; exact (HK9.out.c 6).trans rfl
  have hxl := HO8.out.plen
  have hxc : x.pC ≤ 9223372036854775807 := HO8.out.pcap
  have hyl := HO8.out.klen
  have hyc : x.kC ≤ 9223372036854775807 := HO8.out.kcap
  obtain ⟨hpf, hpf'⟩ : ∃ b, b = p.a.hasPref := ⟨_, rfl⟩
  rw [← hpf'] at c6 d11
  clear hpf'
  cases hpf with
  | true =>
    simp only [if_true] at c6
    have z0 : ((p.a.pref : Int) != (p.a.pref : Int)) = false := by simp
    go_wp2_with fail
    refine (HPS.out _ x HO8.out HB8.out.b HI.out.path).mono ?_
    rintro e w9 ⟨rfl, hb⟩
    have HB9 : Hid (Bu w w9 s g p t3) := HB8.out.below hb
    have HKA : Hid (CellsAt w9 k8 x.ar 33) := HK9.out.below hb HK9.out.lt
    have HO9 : Hid (AtrOk w9 x) := HO8.out.below hb (Nat.le_refl _)
    clear hb HB8 HK9 HO8 c5 c1 d7 d11 d12 c6
    have d22 : w9.cell? ⟨s + 1, 22, none⟩ = some (.int .i64 p.kind) := (HB9.out.p.c 22).trans rfl
    have d19 : w9.cell? ⟨s + 1, 19, none⟩ = some (.bool p.a.hasOrig) := (HB9.out.p.c 19).trans rfl
    have d21 : w9.cell? ⟨s + 1, 21, none⟩ = some (.slice p.a.kA p.a.clus.length p.a.kC) := (HB9.out.p.c 21).trans rfl
    have c15 : w9.cell? ⟨k8, 15, none⟩ = some (.slice x.kA x.clus.length x.kC) := (HKA.out.c 15).trans rfl
    have HKD : Hid (∀ k, p.kind = k → w9.cell? ⟨s + 1, 22, none⟩ = some (.int .i64 k)) := fun k h => by rw [← h]; exact d22
    by_cases hk : p.kind = 4 ∨ p.kind = 5
    · obtain ⟨r1, r2, r3, r4⟩ := HI.out.refl hk
      have HR2 := Lib.hid r2
      have HR3 : Hid (x.clus = (if g.cluster = 0 then g.id else g.cluster) :: p.a.clus) := r3
      have c13 : w9.cell? ⟨k8, 13, none⟩ = some (.bool true) := by rw [show true = x.hasOrig from r1.symm]; exact (HKA.out.c 13).trans rfl
      have c14 : w9.cell? ⟨k8, 14, none⟩ = some (.int .u32 ((if p.a.hasOrig = true then p.a.orig else p.sid : Nat) : Nat)) := by rw [← r2]; exact (HKA.out.c 14).trans rfl
      have d20 : w9.cell? ⟨s + 1, 20, none⟩ = some (.int .u32 (p.a.orig : Nat)) := (HB9.out.p.c 20).trans rfl
      have d25 : w9.cell? ⟨s + 1, 25, none⟩ = some (.int .u32 (p.sid : Nat)) := (HB9.out.p.c 25).trans rfl
      have u3 : w9.cell? ⟨s, 3, none⟩ = some (.int .u32 (g.cluster : Nat)) := (HB9.out.c.c 3).trans rfl
      have u1 : w9.cell? ⟨s, 1, none⟩ = some (.int .u32 (g.id : Nat)) := (HB9.out.c.c 1).trans rfl
      have hlen : x.clus.length = p.a.clus.length + 1 := by rw [HR3.out]; rfl
      obtain ⟨kb, ko, hkA, hkb, hkc2⟩ := HO9.out.krd.at_ (i := 0) (cs := [.int .u32 ((if g.cluster = 0 then g.id else g.cluster : Nat) : Nat)]) (by rw [HR3.out]; rfl)
      have hel := hkc2 0 _ rfl
      rw [hkA, hlen] at c15
      rw [hlen] at hyl
      simp only [Nat.zero_mul, Nat.add_zero] at hel
      obtain ⟨ho, hho⟩ : ∃ b, b = p.a.hasOrig := ⟨_, rfl⟩
      rw [← hho] at c14 d19
      obtain ⟨nK, hnK⟩ : ∃ n, n = p.a.clus.length := ⟨_, rfl⟩
      rw [← hnK] at c15 d21 hyl hkl r4
      obtain ⟨gc, hgc⟩ : ∃ n, n = g.cluster := ⟨_, rfl⟩
      rw [← hgc] at u3 hel
      obtain ⟨gi, hgi⟩ : ∃ n, n = g.id := ⟨_, rfl⟩
      rw [← hgi] at u1 hel
      obtain ⟨po, hpo⟩ : ∃ n, n = p.a.orig := ⟨_, rfl⟩
      rw [← hpo] at c14 d20
      obtain ⟨sd, hsd⟩ : ∃ n, n = p.sid := ⟨_, rfl⟩
      rw [← hsd] at c14 d25
      have HKX := Lib.hid hk
      clear hkA hkc2 hlen hho hnK hgc hgi hpo hsd r1 r2 r3 HR2 HR3 hk d22
      have z1 : ((po : Int) == (po : Int)) = true := beq_iff_eq.2 rfl
      have z2 : ((sd : Int) == (sd : Int)) = true := beq_iff_eq.2 rfl
      rcases HKX.out with hk4 | hk4
      · have d22 := HKD.out 4 hk4
        clear hk4 HKX HKD
        rcases Nat.eq_zero_or_pos gc with h0 | h0
        · subst h0
          rw [if_pos rfl] at hel
          have z3 : ((gi : Int) == (gi : Int)) = true := beq_iff_eq.2 rfl
          cases ho with
          | true =>
            simp only [if_true] at c14
            go_wp2_with fail
            go_ret
            exact ⟨rfl, HB9.out.b⟩
          | false =>
            simp only [Bool.false_eq_true, if_false] at c14
            go_wp2_with fail
            go_ret
            exact ⟨rfl, HB9.out.b⟩
        · rw [if_neg (by omega)] at hel
          have z3 : ((gc : Int) == (gc : Int)) = true := beq_iff_eq.2 rfl
          have z4 : ((gc : Int) == 0) = false := beq_eq_false_iff_ne.2 (by omega)
          cases ho with
          | true =>
            simp only [if_true] at c14
            go_wp2_with fail
            go_ret
            exact ⟨rfl, HB9.out.b⟩
          | false =>
            simp only [Bool.false_eq_true, if_false] at c14
            go_wp2_with fail
            go_ret
            exact ⟨rfl, HB9.out.b⟩
      · have d22 := HKD.out 5 hk4
        clear hk4 HKX HKD
        rcases Nat.eq_zero_or_pos gc with h0 | h0
        · subst h0
          rw [if_pos rfl] at hel
          have z3 : ((gi : Int) == (gi : Int)) = true := beq_iff_eq.2 rfl
          cases ho with
          | true =>
            simp only [if_true] at c14
            go_wp2_with fail
            go_ret
            exact ⟨rfl, HB9.out.b⟩
          | false =>
            simp only [Bool.false_eq_true, if_false] at c14
            go_wp2_with fail
            go_ret
            exact ⟨rfl, HB9.out.b⟩
        · rw [if_neg (by omega)] at hel
          have z3 : ((gc : Int) == (gc : Int)) = true := beq_iff_eq.2 rfl
          have z4 : ((gc : Int) == 0) = false := beq_eq_false_iff_ne.2 (by omega)
          cases ho with
          | true =>
            simp only [if_true] at c14
            go_wp2_with fail
            go_ret
            exact ⟨rfl, HB9.out.b⟩
          | false =>
            simp only [Bool.false_eq_true, if_false] at c14
            go_wp2_with fail
            go_ret
            exact ⟨rfl, HB9.out.b⟩
    · have hn4 : p.kind ≠ 4 := fun h => hk (Or.inl h)
      have hn5 : p.kind ≠ 5 := fun h => hk (Or.inr h)
      obtain ⟨r1, r2⟩ := HI.out.out hn4 hn5
      have c13 : w9.cell? ⟨k8, 13, none⟩ = some (.bool p.a.hasOrig) := by rw [show p.a.hasOrig = x.hasOrig from r1.symm]; exact (HKA.out.c 13).trans rfl
      have hlen : x.clus.length = p.a.clus.length := by rw [show x.clus = p.a.clus from r2]
      rw [hlen] at c15 hyl
      obtain ⟨ho, hho⟩ : ∃ b, b = p.a.hasOrig := ⟨_, rfl⟩
      rw [← hho] at c13 d19
      obtain ⟨kd, hkd⟩ : ∃ b, b = p.kind := ⟨_, rfl⟩
      rw [← hkd] at d22 hn4 hn5
      have m4 : (kd != 4) = true := bne_iff_ne.2 hn4
      have m5 : (kd != 5) = true := bne_iff_ne.2 hn5
      have m4' : (kd == 4) = false := beq_eq_false_iff_ne.2 hn4
      have m5' : (kd == 5) = false := beq_eq_false_iff_ne.2 hn5
      have z1 : (ho == ho) = true := beq_iff_eq.2 rfl
      obtain ⟨nK, hnK⟩ : ∃ n, n = p.a.clus.length := ⟨_, rfl⟩
      rw [← hnK] at c15 d21 hyl hkl
      have z2 : ((nK : Int) == (nK : Int)) = true := beq_iff_eq.2 rfl
      clear hlen hho hkd hnK hk r1 r2 HKD
      go_wp2_with fail
      go_ret
      exact ⟨rfl, HB9.out.b⟩
  | false =>
    simp only [Bool.false_eq_true, if_false] at c6
    go_wp2_with fail
    refine (HPS.out _ x HO8.out HB8.out.b HI.out.path).mono ?_
    rintro e w9 ⟨rfl, hb⟩
    have HB9 : Hid (Bu w w9 s g p t3) := HB8.out.below hb
    have HKA : Hid (CellsAt w9 k8 x.ar 33) := HK9.out.below hb HK9.out.lt
    have HO9 : Hid (AtrOk w9 x) := HO8.out.below hb (Nat.le_refl _)
    clear hb HB8 HK9 HO8 c5 c1 d7 d11 d12 c6
    have d22 : w9.cell? ⟨s + 1, 22, none⟩ = some (.int .i64 p.kind) := (HB9.out.p.c 22).trans rfl
    have d19 : w9.cell? ⟨s + 1, 19, none⟩ = some (.bool p.a.hasOrig) := (HB9.out.p.c 19).trans rfl
    have d21 : w9.cell? ⟨s + 1, 21, none⟩ = some (.slice p.a.kA p.a.clus.length p.a.kC) := (HB9.out.p.c 21).trans rfl
    have c15 : w9.cell? ⟨k8, 15, none⟩ = some (.slice x.kA x.clus.length x.kC) := (HKA.out.c 15).trans rfl
    have HKD : Hid (∀ k, p.kind = k → w9.cell? ⟨s + 1, 22, none⟩ = some (.int .i64 k)) := fun k h => by rw [← h]; exact d22
    by_cases hk : p.kind = 4 ∨ p.kind = 5
    · obtain ⟨r1, r2, r3, r4⟩ := HI.out.refl hk
      have HR2 := Lib.hid r2
      have HR3 : Hid (x.clus = (if g.cluster = 0 then g.id else g.cluster) :: p.a.clus) := r3
      have c13 : w9.cell? ⟨k8, 13, none⟩ = some (.bool true) := by rw [show true = x.hasOrig from r1.symm]; exact (HKA.out.c 13).trans rfl
      have c14 : w9.cell? ⟨k8, 14, none⟩ = some (.int .u32 ((if p.a.hasOrig = true then p.a.orig else p.sid : Nat) : Nat)) := by rw [← r2]; exact (HKA.out.c 14).trans rfl
      have d20 : w9.cell? ⟨s + 1, 20, none⟩ = some (.int .u32 (p.a.orig : Nat)) := (HB9.out.p.c 20).trans rfl
      have d25 : w9.cell? ⟨s + 1, 25, none⟩ = some (.int .u32 (p.sid : Nat)) := (HB9.out.p.c 25).trans rfl
      have u3 : w9.cell? ⟨s, 3, none⟩ = some (.int .u32 (g.cluster : Nat)) := (HB9.out.c.c 3).trans rfl
      have u1 : w9.cell? ⟨s, 1, none⟩ = some (.int .u32 (g.id : Nat)) := (HB9.out.c.c 1).trans rfl
      have hlen : x.clus.length = p.a.clus.length + 1 := by rw [HR3.out]; rfl
      obtain ⟨kb, ko, hkA, hkb, hkc2⟩ := HO9.out.krd.at_ (i := 0) (cs := [.int .u32 ((if g.cluster = 0 then g.id else g.cluster : Nat) : Nat)]) (by rw [HR3.out]; rfl)
      have hel := hkc2 0 _ rfl
      rw [hkA, hlen] at c15
      rw [hlen] at hyl
      simp only [Nat.zero_mul, Nat.add_zero] at hel
      obtain ⟨ho, hho⟩ : ∃ b, b = p.a.hasOrig := ⟨_, rfl⟩
      rw [← hho] at c14 d19
      obtain ⟨nK, hnK⟩ : ∃ n, n = p.a.clus.length := ⟨_, rfl⟩
      rw [← hnK] at c15 d21 hyl hkl r4
      obtain ⟨gc, hgc⟩ : ∃ n, n = g.cluster := ⟨_, rfl⟩
      rw [← hgc] at u3 hel
      obtain ⟨gi, hgi⟩ : ∃ n, n = g.id := ⟨_, rfl⟩
      rw [← hgi] at u1 hel
      obtain ⟨po, hpo⟩ : ∃ n, n = p.a.orig := ⟨_, rfl⟩
      rw [← hpo] at c14 d20
      obtain ⟨sd, hsd⟩ : ∃ n, n = p.sid := ⟨_, rfl⟩
      rw [← hsd] at c14 d25
      have HKX := Lib.hid hk
      clear hkA hkc2 hlen hho hnK hgc hgi hpo hsd r1 r2 r3 HR2 HR3 hk d22
      have z1 : ((po : Int) == (po : Int)) = true := beq_iff_eq.2 rfl
      have z2 : ((sd : Int) == (sd : Int)) = true := beq_iff_eq.2 rfl
      rcases HKX.out with hk4 | hk4
      · have d22 := HKD.out 4 hk4
        clear hk4 HKX HKD
        rcases Nat.eq_zero_or_pos gc with h0 | h0
        · subst h0
          rw [if_pos rfl] at hel
          have z3 : ((gi : Int) == (gi : Int)) = true := beq_iff_eq.2 rfl
          cases ho with
          | true =>
            simp only [if_true] at c14
            go_wp2_with fail
            go_ret
            exact ⟨rfl, HB9.out.b⟩
          | false =>
            simp only [Bool.false_eq_true, if_false] at c14
            go_wp2_with fail
            go_ret
            exact ⟨rfl, HB9.out.b⟩
        · rw [if_neg (by omega)] at hel
          have z3 : ((gc : Int) == (gc : Int)) = true := beq_iff_eq.2 rfl
          have z4 : ((gc : Int) == 0) = false := beq_eq_false_iff_ne.2 (by omega)
          cases ho with
          | true =>
            simp only [if_true] at c14
            go_wp2_with fail
            go_ret
            exact ⟨rfl, HB9.out.b⟩
          | false =>
            simp only [Bool.false_eq_true, if_false] at c14
            go_wp2_with fail
            go_ret
            exact ⟨rfl, HB9.out.b⟩
      · have d22 := HKD.out 5 hk4
        clear hk4 HKX HKD
        rcases Nat.eq_zero_or_pos gc with h0 | h0
        · subst h0
          rw [if_pos rfl] at hel
          have z3 : ((gi : Int) == (gi : Int)) = true := beq_iff_eq.2 rfl
          cases ho with
          | true =>
            simp only [if_true] at c14
            go_wp2_with fail
            go_ret
            exact ⟨rfl, HB9.out.b⟩
          | false =>
            simp only [Bool.false_eq_true, if_false] at c14
            go_wp2_with fail
            go_ret
            exact ⟨rfl, HB9.out.b⟩
        · rw [if_neg (by omega)] at hel
          have z3 : ((gc : Int) == (gc : Int)) = true := beq_iff_eq.2 rfl
          have z4 : ((gc : Int) == 0) = false := beq_eq_false_iff_ne.2 (by omega)
          cases ho with
          | true =>
            simp only [if_true] at c14
            go_wp2_with fail
            go_ret
            exact ⟨rfl, HB9.out.b⟩
          | false =>
            simp only [Bool.false_eq_true, if_false] at c14
            go_wp2_with fail
            go_ret
            exact ⟨rfl, HB9.out.b⟩
    · have hn4 : p.kind ≠ 4 := fun h => hk (Or.inl h)
      have hn5 : p.kind ≠ 5 := fun h => hk (Or.inr h)
      obtain ⟨r1, r2⟩ := HI.out.out hn4 hn5
      have c13 : w9.cell? ⟨k8, 13, none⟩ = some (.bool p.a.hasOrig) := by rw [show p.a.hasOrig = x.hasOrig from r1.symm]; exact (HKA.out.c 13).trans rfl
      have hlen : x.clus.length = p.a.clus.length := by rw [show x.clus = p.a.clus from r2]
      rw [hlen] at c15 hyl
      obtain ⟨ho, hho⟩ : ∃ b, b = p.a.hasOrig := ⟨_, rfl⟩
      rw [← hho] at c13 d19
      obtain ⟨kd, hkd⟩ : ∃ b, b = p.kind := ⟨_, rfl⟩
      rw [← hkd] at d22 hn4 hn5
      have m4 : (kd != 4) = true := bne_iff_ne.2 hn4
      have m5 : (kd != 5) = true := bne_iff_ne.2 hn5
      have m4' : (kd == 4) = false := beq_eq_false_iff_ne.2 hn4
      have m5' : (kd == 5) = false := beq_eq_false_iff_ne.2 hn5
      have z1 : (ho == ho) = true := beq_iff_eq.2 rfl
      obtain ⟨nK, hnK⟩ : ∃ n, n = p.a.clus.length := ⟨_, rfl⟩
      rw [← hnK] at c15 d21 hyl hkl
      have z2 : ((nK : Int) == (nK : Int)) = true := beq_iff_eq.2 rfl
      clear hlen hho hkd hnK hk r1 r2 HKD
      go_wp2_with fail
      go_ret
      exact ⟨rfl, HB9.out.b⟩
end Go.Proofs.YtojiieghjhjoaaaGreat
