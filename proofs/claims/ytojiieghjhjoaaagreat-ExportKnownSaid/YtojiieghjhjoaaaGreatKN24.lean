/-
  Several texts in one.
-/
import Derived.Test.YtojiieghjhjoaaaGreatKN23
import Derived.Deep.MidRow
import Derived.Deep.WholeRow
set_option linter.unusedVariables false
set_option linter.unusedSimpArgs false
namespace Go.Proofs.YtojiieghjhjoaaaGreat
open Go.RowKit Go.MapKept Go.Shelf
open Go.Lib hiding intOf

/-- a part of a block's cells -/
theorem CellsAt.mid {W : World} {b o : Nat} {cs : Array Value} {T : TypeId} (h : CellsAt W b cs T) {l1 l2 l3 : List Value} (e : cs.toList = l1 ++ (l2 ++ l3)) (ho : l1.length = o) : W.rangeAt b o l2 := fun j v hv => by
  rw [h.c, ← Array.getElem?_toList, e, ← ho, List.getElem?_append_right (by omega)]
  rw [Nat.add_sub_cancel_left, List.getElem?_append_left (List.getElem?_eq_some_iff.1 hv).1]
  exact hv
def Nl.pf (n : Nl) : Array Value := #[.int .i64 n.fam, .int .u64 n.rd, .string n.addr, .int .i64 n.len]
def Pth.so (p : Pth) : Array Value := #[.int .i64 p.kind, .string p.peer, .int .u32 (p.as_ : Nat), .int .u32 (p.sid : Nat), .string p.addr, .string p.vrf]
section
variable {W : World} {b : Nat} {p : Pth} {T : TypeId}
theorem pth_whole (h : CellsAt W b p.ar T) : W.rangeAt b 0 p.ar.toList := h.mid (l1 := []) (l3 := []) (by simp) rfl
theorem pth_pre (h : CellsAt W b p.ar T) : W.rangeAt b 0 p.n.pf.toList := h.mid (l1 := []) (l3 := [.int .u32 p.n.id, .int .u32 p.n.label] ++ (p.a.ar.toList ++ (p.so.toList ++ [.bool p.stale]))) rfl rfl
theorem pth_at (h : CellsAt W b p.ar T) : W.rangeAt b 6 p.a.ar.toList := h.mid (l1 := p.n.pf.toList ++ [.int .u32 p.n.id, .int .u32 p.n.label]) (l3 := p.so.toList ++ [.bool p.stale]) rfl rfl
theorem pth_so (h : CellsAt W b p.ar T) : W.rangeAt b 22 p.so.toList := h.mid (l1 := p.n.pf.toList ++ ([.int .u32 p.n.id, .int .u32 p.n.label] ++ p.a.ar.toList)) (l3 := [.bool p.stale]) rfl rfl
theorem pth_cells (h : CellsAt W b p.ar T) : W.cell? ⟨b, 0, none⟩ = some (.int .i64 p.n.fam) ∧ W.cell? ⟨b, 4, none⟩ = some (.int .u32 p.n.id) ∧ W.cell? ⟨b, 5, none⟩ = some (.int .u32 p.n.label) ∧ W.cell? ⟨b, 8, none⟩ = some (.string p.a.next) ∧ W.cell? ⟨b, 16, none⟩ = some (.slice p.a.mA p.a.comms.length p.a.mC) ∧ W.cell? ⟨b, 22, none⟩ = some (.int .i64 p.kind) ∧ W.cell? ⟨b, 23, none⟩ = some (.string p.peer) ∧ W.cell? ⟨b, 25, none⟩ = some (.int .u32 (p.sid : Nat)) :=
  ⟨(h.c 0).trans rfl, (h.c 4).trans rfl, (h.c 5).trans rfl, (h.c 8).trans rfl, (h.c 16).trans rfl, (h.c 22).trans rfl, (h.c 23).trans rfl, (h.c 25).trans rfl⟩
end
theorem cfg_cells {W : World} {b : Nat} {g : Cfg} {T : TypeId} (h : CellsAt W b g.ar T) : W.cell? ⟨b, 0, none⟩ = some (.int .u32 (g.as_ : Nat)) ∧ W.cell? ⟨b, 1, none⟩ = some (.int .u32 (g.id : Nat)) ∧ W.cell? ⟨b, 2, none⟩ = some (.int .u32 (g.confed : Nat)) ∧ W.cell? ⟨b, 4, none⟩ = some (.int .u32 (g.cluster : Nat)) ∧ W.cell? ⟨b, 5, none⟩ = some (.string g.addr) :=
  ⟨(h.c 0).trans rfl, (h.c 1).trans rfl, (h.c 2).trans rfl, (h.c 4).trans rfl, (h.c 5).trans rfl⟩
theorem pr_cells {W : World} {b : Nat} {t : Pr} {T : TypeId} (h : CellsAt W b t.ar T) : W.cell? ⟨b, 0, none⟩ = some (.string t.name) ∧ W.cell? ⟨b, 12, none⟩ = some (.slice t.fA t.fams.length t.fC) ∧ W.cell? ⟨b, 22, none⟩ = some (.bool t.selfNext) :=
  ⟨(h.c 0).trans rfl, (h.c 12).trans rfl, (h.c 22).trans rfl⟩
theorem whole_range {W : World} {b : Nat} {cs : Array Value} {T : TypeId} (h : CellsAt W b cs T) : W.rangeAt b 0 cs.toList := h.mid (l1 := []) (l3 := []) (by simp) rfl
theorem so_ones (p : Pth) : p.so.all Value.oneCell' = true := Array.all_eq_true_iff_forall_mem.2 (fun u hu => by
  simp only [Pth.so, List.mem_toArray, List.mem_cons, List.not_mem_nil, or_false] at hu
  rcases hu with rfl | rfl | rfl | rfl | rfl | rfl <;> rfl)
theorem pth_ones (p : Pth) : p.ar.all Value.oneCell' = true := Array.all_eq_true_iff_forall_mem.2 (fun u hu => by
  simp only [Pth.ar, List.mem_toArray, List.mem_cons, List.not_mem_nil, or_false] at hu
  rcases hu with rfl | rfl | rfl | rfl | rfl | rfl | rfl | rfl | rfl | rfl | rfl | rfl | rfl | rfl | rfl | rfl | rfl | rfl | rfl | rfl | rfl | rfl | rfl | rfl | rfl | rfl | rfl | rfl | rfl <;> rfl)
theorem pathS : ∃ fs, Tryz.prog.underlying 37 = some (.struct fs) := ⟨_, Tryz.underlying37⟩
theorem peerS : ∃ fs, Tryz.prog.underlying 40 = some (.struct fs) := ⟨_, Tryz.underlying40⟩
theorem confS : ∃ fs, Tryz.prog.underlying 49 = some (.struct fs) := ⟨_, Tryz.underlying49⟩
theorem prefS : ∃ fs, Tryz.prog.underlying 27 = some (.struct fs) := ⟨_, Tryz.underlying27⟩
theorem soS : ∃ fs, Tryz.prog.underlying 35 = some (.struct fs) := ⟨_, Tryz.underlying35⟩
theorem atS : ∃ fs, Tryz.prog.underlying 33 = some (.struct fs) := ⟨_, Tryz.underlying33⟩
theorem pathZ : (Tryz.prog.info? 37).map (·.size) = some 29 := by kernel_rfl
theorem peerZ : (Tryz.prog.info? 40).map (·.size) = some 23 := by kernel_rfl
theorem confZ : (Tryz.prog.info? 49).map (·.size) = some 13 := by kernel_rfl
theorem prefZ : (Tryz.prog.info? 27).map (·.size) = some 4 := by kernel_rfl
theorem soZ : (Tryz.prog.info? 35).map (·.size) = some 6 := by kernel_rfl
theorem atZ : (Tryz.prog.info? 33).map (·.size) = some 16 := by kernel_rfl
section
variable {ops : Array Oper} {rest : List Oper} {op : Oper} {a : Act} {w : World} {Q : Exit → Act → World → Prop}
/-- a whole struct is loaded -/
theorem wpList_load_row (hw : Region.wanted op (yielded ops a.tmps) = true) (T : TypeId) (src : Operand) (ho : op.op = .load T src) (b o : Nat) (hx : a.eval src = .pointer (some ⟨b, o, none⟩)) (cs : Array Value) (hr : w.rangeAt b o cs.toList) (hu : ∃ fs, Tryz.prog.underlying T = some (.struct fs)) (n : Nat) (hs : (Tryz.prog.info? T).map (·.size) = some n) (hn : cs.size = n)
    (h : wpList Tryz.prog ops Q rest (a.put op.dst (.agg cs)) w) : wpList Tryz.prog ops Q (op :: rest) a w := by
  obtain ⟨fs, hu⟩ := hu
  refine wpList_step fun K hK => ?_
  rw [if_pos hw]
  exact wp_load_mid T src ho b o hx cs.toList _ hr hu rfl (by rw [hs, ← hn]; simp) (hK _ _ h)
theorem wpList_load_path (hw : Region.wanted op (yielded ops a.tmps) = true) (src : Operand) (ho : op.op = .load 37 src) (b : Nat) (hx : a.eval src = .pointer (some ⟨b, 0, none⟩)) (p : Pth) (hc : Hid (CellsAt w b p.ar 37)) (h : wpList Tryz.prog ops Q rest (a.put op.dst (.agg p.ar)) w) : wpList Tryz.prog ops Q (op :: rest) a w :=
  wpList_load_row hw _ src ho b 0 hx p.ar (pth_whole hc.out) pathS 29 pathZ rfl h
theorem wpList_load_peer (hw : Region.wanted op (yielded ops a.tmps) = true) (src : Operand) (ho : op.op = .load 40 src) (b : Nat) (hx : a.eval src = .pointer (some ⟨b, 0, none⟩)) (t : Pr) (hc : Hid (CellsAt w b t.ar 40)) (h : wpList Tryz.prog ops Q rest (a.put op.dst (.agg t.ar)) w) : wpList Tryz.prog ops Q (op :: rest) a w :=
  wpList_load_row hw _ src ho b 0 hx t.ar (whole_range hc.out) peerS 23 peerZ rfl h
theorem wpList_load_conf (hw : Region.wanted op (yielded ops a.tmps) = true) (src : Operand) (ho : op.op = .load 49 src) (b : Nat) (hx : a.eval src = .pointer (some ⟨b, 0, none⟩)) (g : Cfg) (hc : Hid (CellsAt w b g.ar 49)) (h : wpList Tryz.prog ops Q rest (a.put op.dst (.agg g.ar)) w) : wpList Tryz.prog ops Q (op :: rest) a w :=
  wpList_load_row hw _ src ho b 0 hx g.ar (whole_range hc.out) confS 13 confZ rfl h
theorem wpList_load_pat (hw : Region.wanted op (yielded ops a.tmps) = true) (src : Operand) (ho : op.op = .load 33 src) (b : Nat) (hx : a.eval src = .pointer (some ⟨b, 6, none⟩)) (p : Pth) (hc : Hid (CellsAt w b p.ar 37)) (h : wpList Tryz.prog ops Q rest (a.put op.dst (.agg p.a.ar)) w) : wpList Tryz.prog ops Q (op :: rest) a w :=
  wpList_load_row hw _ src ho b 6 hx p.a.ar (pth_at hc.out) atS 16 atZ rfl h
theorem wpList_load_pso (hw : Region.wanted op (yielded ops a.tmps) = true) (src : Operand) (ho : op.op = .load 35 src) (b : Nat) (hx : a.eval src = .pointer (some ⟨b, 22, none⟩)) (p : Pth) (hc : Hid (CellsAt w b p.ar 37)) (h : wpList Tryz.prog ops Q rest (a.put op.dst (.agg p.so)) w) : wpList Tryz.prog ops Q (op :: rest) a w :=
  wpList_load_row hw _ src ho b 22 hx p.so (pth_so hc.out) soS 6 soZ rfl h
theorem wpList_load_ppf (hw : Region.wanted op (yielded ops a.tmps) = true) (src : Operand) (ho : op.op = .load 27 src) (b : Nat) (hx : a.eval src = .pointer (some ⟨b, 0, none⟩)) (p : Pth) (hc : Hid (CellsAt w b p.ar 37)) (h : wpList Tryz.prog ops Q rest (a.put op.dst (.agg p.n.pf)) w) : wpList Tryz.prog ops Q (op :: rest) a w :=
  wpList_load_row hw _ src ho b 0 hx p.n.pf (pth_pre hc.out) prefS 4 prefZ rfl h
/-- a whole struct is laid into the block that was just made -/
theorem wpList_new_row {Z : Array Value} (hgd : op.guard = none) (T : TypeId) (x y : Operand) (ho : op.op = .store T x y) (hx : a.eval x = .pointer (some ⟨w.heap.size, 0, none⟩)) (cs : Array Value) (hy : a.eval y = .agg cs) (n : Nat) (hs : (Tryz.prog.info? T).map (·.size) = some n) (hn : cs.size = n) (hZ : Z.size = n) (h1 : cs.all (·.oneCell') = true)
    (h : ∀ V, Hid (CellsAt V w.heap.size cs T) → Hid (Below w.heap.size w V) → wpList Tryz.prog ops Q rest (a.put op.dst undef) V) : wpList Tryz.prog ops Q (op :: rest) a (w.alloc (.cells Z T)) :=
  wpList_plain hgd fun _ hK => by
    unfold Oper.wp execOp
    simp only [ho, hx, hy, run_storeAt_new (P := Tryz.prog) w T Z cs (by rw [hs, hn]) (by rw [hZ, hn]) h1, Sem.run_bind, Sem.run_pure, Result.andThen_ok]
    exact hK _ _ (h _ (CellsAt.new _ _ _) ((Below.refl _ _).alloc (Nat.le_refl _) _))
theorem build_nl (n : Nl) : ∀ W : World, (Instr.build 106 #[(0, .agg n.pf), (1, .int .u32 n.id), (2, .int .u32 n.label)]).run Tryz.prog W = .ok n.v W := fun W => run_build W _ _ _ (by kernel_rfl)
/-- a told prefix is built -/
theorem wpList_build_nlr (hgd : op.guard = none) (T1 T2 T3 : Operand) (ho : op.op = .build 106 #[(0, T1), (1, T2), (2, T3)]) (n : Nl) (h1 : a.eval T1 = .agg n.pf) (h2 : a.eval T2 = .int .u32 n.id) (h3 : a.eval T3 = .int .u32 n.label)
    (h : wpList Tryz.prog ops Q rest (a.put op.dst n.v) w) : wpList Tryz.prog ops Q (op :: rest) a w :=
  wpList_plain hgd fun _ hK => by
    have e : ((#[(0, T1), (1, T2), (2, T3)] : Array (Nat × Operand)).map fun (i, x) => (i, a.eval x)) = #[(0, .agg n.pf), (1, .int .u32 n.id), (2, .int .u32 n.label)] := by simp [h1, h2, h3]
    unfold Oper.wp execOp
    simp only [ho, Sem.run_bind, e, build_nl n w, Result.andThen_ok]
    exact hK _ _ h
end
/-- no term is not one that may not be -/
theorem noterm_idx (g : Value) (w : World) : Calls Tryz.prog 108 #[.slice none 0 0, g] w fun e w' => e = .returned (.int .i64 (-1)) ∧ w' = w := by
  go_enter Tryz.func108, Tryz.ntmps108
  go_wp2_with fail
  go_loopw [8] (fun i wr => i = .int .i64 0 ∧ wr = w) (fun _ _ => 1)
  case atStart => exact ⟨rfl, rfl⟩
  case round =>
    obtain ⟨rfl, hwr⟩ := hrel
    subst hwr
    go_wp2_with fail
    go_ret
    exact ⟨rfl, rfl⟩
theorem noterm (g : Value) (w : World) : Calls Tryz.prog 90 #[.slice none 0 0, g] w fun e w' => e = .returned (.bool false) ∧ w' = w := by
  go_enter Tryz.func90, Tryz.ntmps90
  go_wp2_with fail
  refine (noterm_idx g _).mono ?_
  rintro e w9 ⟨rfl, hw9⟩
  subst w9
  go_wp2_with fail
  go_ret
  exact ⟨rfl, rfl⟩
theorem needs_none (s : ByteArray) (w : World) : Calls Tryz.prog 94 #[.agg #[.string s, .slice none 0 0, .bool false]] w fun e w' => e = .returned (.slice none 0 0) ∧ Below w.heap.size w w' := by
  have HB := Lib.hid (below1 w)
  go_enter Tryz.func94, Tryz.ntmps94
  go_wp2_with fail
  go_loopw [3, 13] (fun o i wr => o = .slice none 0 0 ∧ i = .int .i64 0 ∧ Hid (Below w.heap.size w wr)) (fun _ _ _ => 1)
  case atStart => exact ⟨rfl, rfl, HB.out _⟩
  case round =>
    obtain ⟨rfl, rfl, HBR⟩ := hrel
    go_wp2_with fail
    go_ret
    exact ⟨rfl, HBR.out⟩
set_option maxHeartbeats 4000000 in
/-- polc.Check of a policy that has but a name -/
theorem polc_any (s : ByteArray) (w : World) : Calls Tryz.prog 67 #[.agg #[.string s, .slice none 0 0, .bool false], .slice none 0 0] w fun e w' => e = .returned (.int .i64 (okN (nameF s))) ∧ Below w.heap.size w w' := by
  have HB := Lib.hid (below1 w)
  have HN := Lib.hid (isname_any s)
  have HF := Lib.hid noterm
  have HE := Lib.hid (needs_none s)
  obtain ⟨V, hV⟩ : ∃ V, V = w.alloc (.cells #[.string s, .slice none 0 0, .bool false] 110) := ⟨_, rfl⟩
  have HC0 : Hid (CellsAt V w.heap.size #[.string s, .slice none 0 0, .bool false] 110) := by rw [hV]; exact CellsAt.new _ _ _
  have HBV : Hid (Below w.heap.size w V) := by rw [hV]; exact HB.out _
  cases hn : nameF s with
  | false =>
    rw [hn] at HN
    clear hn
    go_enter Tryz.func67, Tryz.ntmps67
    go_upto_region 1 with fail
    rw [← hV]
    clear hV
    obtain ⟨c0, c1, c2⟩ := HC0.out.c3
    go_wp2_with fail
    refine (HN.out _).mono ?_
    rintro e w9 ⟨rfl, hw9⟩
    have HB2 : Hid (Below w.heap.size w w9) := HBV.out.trans (hw9.mono HBV.out.size)
    clear hw9 c0 c1 c2
    go_wp2_with fail
    go_ret
    exact ⟨rfl, HB2.out⟩
  | true =>
    rw [hn] at HN
    clear hn
    go_enter Tryz.func67, Tryz.ntmps67
    go_upto_region 1 with fail
    rw [← hV]
    clear hV
    obtain ⟨c0, c1, c2⟩ := HC0.out.c3
    go_wp2_with fail
    refine (HN.out _).mono ?_
    rintro e w9 ⟨rfl, hw9⟩
    have HB2 : Hid (Below w.heap.size w w9) := HBV.out.trans (hw9.mono HBV.out.size)
    have HC1 : Hid (CellsAt w9 w.heap.size #[.string s, .slice none 0 0, .bool false] 110) := HC0.out.below hw9 HC0.out.lt
    clear hw9 c0 c1 c2
    obtain ⟨c0, c1, c2⟩ := HC1.out.c3
    go_wp2_with fail
    refine (HF.out _ _).mono ?_
    rintro e w8 ⟨rfl, hw8⟩
    subst w8
    have hmm := @run_makeMap Tryz.prog
    go_upto_region 4 with fail
    clear hmm
    refine rb_name fun V2 hV2 => ?_
    have HB3 : Hid (Below w.heap.size w V2) := by rw [hV2]; exact HB2.out.alloc (by first | exact HB2.out.size | omega) _
    have HC2 : Hid (CellsAt V2 w.heap.size #[.string s, .slice none 0 0, .bool false] 110) := by rw [hV2]; exact HC1.out.alloc _
    clear hV2 c0 c1 c2
    obtain ⟨c0, c1, c2⟩ := HC2.out.c3
    go_wp2_with fail
    go_loopw [28] (fun i wr => i = .int .i64 0 ∧ wr = V2) (fun _ _ => 1)
    case atStart => exact ⟨rfl, rfl⟩
    case round =>
      obtain ⟨rfl, hwr⟩ := hrel
      subst hwr
      go_wp2_with fail
      refine (HE.out _).mono ?_
      rintro e w7 ⟨rfl, hw7⟩
      have HB4 : Hid (Below w.heap.size w w7) := HB3.out.trans (hw7.mono HB3.out.size)
      clear hw7 c0 c1 c2
      go_wp2_with fail
      go_loopw [51] (fun i wr => i = .int .i64 0 ∧ wr = w7) (fun _ _ => 1)
      case atStart => exact ⟨rfl, rfl⟩
      case round =>
        obtain ⟨rfl, hwr⟩ := hrel
        subst hwr
        go_wp2_with fail
        go_ret
        exact ⟨rfl, HB4.out⟩
end Go.Proofs.YtojiieghjhjoaaaGreat
