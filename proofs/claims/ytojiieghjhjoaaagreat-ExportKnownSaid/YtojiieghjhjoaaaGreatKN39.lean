/-
  Several texts in one.
-/
import Derived.Test.YtojiieghjhjoaaaGreatKN38
import Derived.Test.YtojiieghjhjoaaaGreatKN15
set_option linter.unusedVariables false
set_option linter.unusedSimpArgs false
namespace Go.Proofs.YtojiieghjhjoaaaGreat
open Go.RowKit Go.MapKept Go.Shelf
open Go.Lib hiding intOf

section
variable {ops : Array Oper} {rest : List Oper} {op : Oper} {a : Act} {w : World} {Q : Exit → Act → World → Prop}
/-- a struct is built -/
theorem wpList_build_g (hgd : op.guard = none) (T : TypeId) (fs : Array (Nat × Operand)) (ho : op.op = .build T fs) (vs : Array (Nat × Value)) (hv : (fs.map fun (i, x) => (i, a.eval x)) = vs) (v : Value) (hb : ∀ W : World, (Instr.build T vs).run Tryz.prog W = .ok v W)
    (h : wpList Tryz.prog ops Q rest (a.put op.dst v) w) : wpList Tryz.prog ops Q (op :: rest) a w :=
  wpList_plain hgd fun _ hK => by
    unfold Oper.wp execOp
    simp only [ho, Sem.run_bind, hv, hb w, Result.andThen_ok]
    exact hK _ _ h
/-- a whole struct is stored in a block just made -/
theorem wpList_new_rowN {Z : Array Value} (s : Nat) (hs0 : w.heap.size = s) (hgd : op.guard = none) (T : TypeId) (x y : Operand) (ho : op.op = .store T x y) (hx : a.eval x = .pointer (some ⟨s, 0, none⟩)) (cs : Array Value) (hy : a.eval y = .agg cs) (n : Nat) (hs : (Tryz.prog.info? T).map (·.size) = some n) (hn : cs.size = n) (hZ : Z.size = n) (h1 : cs.all (·.oneCell') = true)
    (h : ∀ V, Hid (CellsAt V s cs T) → Hid (Below s w V) → wpList Tryz.prog ops Q rest (a.put op.dst undef) V) : wpList Tryz.prog ops Q (op :: rest) a (w.alloc (.cells Z T)) := by
  subst hs0
  exact wpList_new_row hgd T x y ho hx cs hy n hs hn hZ h1 h
/-- a whole struct is stored over another -/
theorem wpList_over_row {old : Array Value} (hgd : op.guard = none) (T : TypeId) (x y : Operand) (ho : op.op = .store T x y) (b : Nat) (hx : a.eval x = .pointer (some ⟨b, 0, none⟩)) (cs : Array Value) (hy : a.eval y = .agg cs) (n : Nat) (hs : (Tryz.prog.info? T).map (·.size) = some n) (hn : cs.size = n) (ho2 : old.size = n) (hc : CellsAt w b old T) (h1 : cs.all (·.oneCell') = true)
    (h : ∀ V, Hid (CellsAt V b cs T) → Hid (w.grownBy V (some b)) → wpList Tryz.prog ops Q rest (a.put op.dst undef) V) : wpList Tryz.prog ops Q (op :: rest) a w :=
  wpList_store_row hgd T x y ho b cs hx hy T old hc (by rw [hs, hn]) (by rw [hn, ho2]) h1 (h _ (Lib.hid (hc.setRow' cs)) (Lib.hid (grown_setRow' w b cs)))
def setMany (cs : Array Value) : Nat → List Value → Array Value
  | _, [] => cs
  | o, v :: r => setMany (cs.setIfInBounds o v) (o + 1) r
theorem CellsAt.setMany {b : Nat} {T : TypeId} : ∀ (vs : List Value) (o : Nat) (w : World) (cs : Array Value), CellsAt w b cs T → CellsAt (w.setCells b o vs) b (Go.Proofs.YtojiieghjhjoaaaGreat.setMany cs o vs) T
  | [], _, _, _, h => h
  | v :: r, o, w, cs, h => by
    have h2 : w.heap[b]? = some (.cells cs T (0, 0)) := h
    refine CellsAt.setMany r (o + 1) (w.setCell ⟨b, o, none⟩ v) (cs.setIfInBounds o v) ?_
    rw [setCell_eq_setRow w b o _ _ _ _ h2]
    exact setRow_heap w b _ _ _ _ h2
theorem grown_setMany {b : Nat} : ∀ (vs : List Value) (o : Nat) (w : World), w.grownBy (w.setCells b o vs) (some b)
  | [], _, w => ⟨rfl, rfl, rfl, Nat.le_refl _, fun _ _ _ => rfl⟩
  | v :: r, o, w => (grown_setCell w ⟨b, o, none⟩ v).trans (grown_setMany r (o + 1) _)
theorem CellsAt.thereN {b : Nat} {cs : Array Value} {T : TypeId} (h : CellsAt w b cs T) (o n : Nat) (hn : o + n ≤ cs.size) : w.there b o n := fun j hj => by
  refine ⟨?_, ?_⟩
  · rw [h.c, Array.getElem?_eq_getElem (by omega)]; rfl
  · have h2 : w.heap[b]? = some (.cells cs T (0, 0)) := h
    simp only [World.frozen?, h2]
    simp
end
theorem results_row1 {fn : Func} {p : Tmp} {T : TypeId} (h : fn.results = #[.cell p T]) (tmps : Array Value) (w : World) (g : Nat) (cs : Array Value) (hp : tmps.getD p undef = .pointer (some ⟨g, 0, none⟩)) (hg : CellsAt w g cs T) (hu : ∃ fs, Tryz.prog.underlying T = some (.struct fs)) (n : Nat) (hs : (Tryz.prog.info? T).map (·.size) = some n) (hn : cs.size = n) :
    (results fn tmps).run Tryz.prog w = .ok (.agg cs) w := by
  obtain ⟨fs, hu⟩ := hu
  exact results_cell_row h tmps w g T cs (0, 0) _ hp hg hu rfl (by rw [hs, hn])
theorem usS : ∃ fs, Tryz.prog.underlying 24 = some (.struct fs) := ⟨_, Tryz.underlying24⟩
theorem usZ : (Tryz.prog.info? 24).map (·.size) = some 5 := by kernel_rfl
/-- what counts of a configuration -/
def Cfg.us (g : Cfg) : Array Value := #[.int .u32 (g.as_ : Nat), .int .u32 (g.id : Nat), .int .u32 (g.confed : Nat), .int .u32 (g.cluster : Nat), .string g.addr]
def g0 : Cfg := ⟨65000, 7, 0, 0, ⟨#[10, 0, 0, 1]⟩⟩
theorem g0_ok : g0.Ok := ⟨by decide, by decide, by decide, by decide, by decide⟩
theorem cfg_ones (g : Cfg) : g.ar.all Value.oneCell' = true := Array.all_eq_true_iff_forall_mem.2 (fun u hu => by
  simp only [Cfg.ar, List.mem_toArray, List.mem_cons, List.not_mem_nil, or_false] at hu
  rcases hu with rfl | rfl | rfl | rfl | rfl | rfl | rfl | rfl | rfl | rfl | rfl | rfl | rfl <;> rfl)
theorem pr_ones (t : Pr) : t.ar.all Value.oneCell' = true := Array.all_eq_true_iff_forall_mem.2 (fun u hu => by
  simp only [Pr.ar, List.mem_toArray, List.mem_cons, List.not_mem_nil, or_false] at hu
  rcases hu with rfl | rfl | rfl | rfl | rfl | rfl | rfl | rfl | rfl | rfl | rfl | rfl | rfl | rfl | rfl | rfl | rfl | rfl | rfl | rfl | rfl | rfl | rfl <;> rfl)
set_option maxRecDepth 100000 in
set_option maxHeartbeats 4000000 in
theorem us_any (w : World) : Calls Tryz.prog 21 #[] w fun e w' => e = .returned (.agg g0.us) ∧ Below w.heap.size w w' := by
  go_enter Tryz.func21, Tryz.ntmps21
  go_wp2_with fail
  try simp only [Exit.inBlock, Exit.then]
  exact bodyPost_ret (results_row1 rfl _ _ _ g0.us rfl (CellsAt.new _ _ _) usS 5 usZ rfl) rfl ⟨rfl, below1 w _⟩
set_option maxRecDepth 100000 in
set_option maxHeartbeats 4000000 in
theorem conf_any (g : Cfg) (w : World) : Calls Tryz.prog 11 #[.agg g.us] w fun e w' => e = .returned (.agg g.ar) ∧ Below w.heap.size w w' := by
  obtain ⟨R, hR⟩ : ∃ R, R = Value.agg g.ar := ⟨_, rfl⟩
  rw [← hR]
  have HR := Lib.hid hR
  clear hR
  obtain ⟨A, B, C, D, E⟩ := g
  show Calls _ _ #[.agg #[.int .u32 (A : Nat), .int .u32 (B : Nat), .int .u32 (C : Nat), .int .u32 (D : Nat), .string E]] _ _
  go_enter Tryz.func11, Tryz.ntmps11
  go_wp2_with (with_reducible show wpList _ _ _ (_ :: _) _ _; first | refine wpList_build_g rfl 49 _ rfl #[(0, .int .u32 (A : Nat)), (1, .int .u32 (B : Nat)), (2, .int .u32 (C : Nat)), (4, .int .u32 (D : Nat)), (5, .string E)] rfl (.agg (Cfg.ar ⟨A, B, C, D, E⟩)) (fun W => run_build W _ _ _ (by kernel_rfl)) ?_ | refine wpList_new_rowN (w.heap.size + 1) (by simp) rfl 49 (.tmp 2) (.tmp 13) rfl rfl (Cfg.ar ⟨A, B, C, D, E⟩) rfl 13 confZ rfl rfl rfl ?_)
  try simp only [Exit.inBlock, Exit.then]
  exact bodyPost_ret (results_row1 rfl _ _ _ (Cfg.ar ⟨A, B, C, D, E⟩) rfl (new2b w _ _ _) confS 13 confZ rfl) rfl ⟨HR.out.symm ▸ rfl, below2 w _ _⟩
def mkPr (name : ByteArray) (as_ b : Nat) : Pr := ⟨name, ⟨#[]⟩, 0, 0, ⟨#[]⟩, 0, as_, 0, 0, false, false, false, some ⟨b, 0, none⟩, [1], 1, 0, false, 0, false, 0, 0, ⟨#[]⟩, ⟨#[]⟩, ⟨#[]⟩, false⟩
theorem mkPr_ok {W : World} {name : ByteArray} {as_ b : Nat} (h1 : CellsAt W b #[.int .i64 1] 3) (hn : name.size ≤ 9223372036854775807) (ha : as_ < 4294967296) : PrOk W (mkPr name as_ b) :=
  ⟨fun _ => ⟨b, 0, rfl, h1.lt, fun i cs hi j u hu => by
    match i, hi with
    | 0, hi =>
      obtain rfl : [Value.int .i64 1] = cs := Option.some.inj hi
      rw [show 0 + 0 * 1 + j = j by omega, h1.c, ← Array.getElem?_toList]
      exact hu
    | i + 1, hi => cases hi⟩, Nat.le_refl _, show (1 : Nat) ≤ maxLen by decide, hn, ha⟩
set_option maxRecDepth 100000 in
set_option maxHeartbeats 4000000 in
theorem to_any (name : ByteArray) (as_ : Nat) (w : World) (hn : name.size ≤ 9223372036854775807) (ha : as_ < 4294967296) : Calls Tryz.prog 23 #[.string name, .int .u32 (as_ : Nat)] w fun e w' => (∃ b, e = .returned (.agg (mkPr name as_ b).ar) ∧ PrOk w' (mkPr name as_ b)) ∧ Below w.heap.size w w' := by
  have HN := Lib.hid hn
  have HA := Lib.hid ha
  clear hn ha
  have H1 : Hid (∀ cs : Array Value, CellsAt ((w.alloc (.cells cs 40)).alloc (.cells #[.int .i64 1] 3)) w.heap.size cs 40) := fun cs => new1 w _ cs _
  have H2 : Hid (∀ cs : Array Value, CellsAt ((w.alloc (.cells cs 40)).alloc (.cells #[.int .i64 1] 3)) (w.heap.size + 1) #[.int .i64 1] 3) := fun cs => new2b w _ _ _
  have H3 : Hid (∀ cs : Array Value, Below w.heap.size w ((w.alloc (.cells cs 40)).alloc (.cells #[.int .i64 1] 3))) := fun cs => below2 w _ _
  go_enter Tryz.func23, Tryz.ntmps23
  go_wp2_with (with_reducible show wpList _ _ _ (_ :: _) _ _; first | refine wpList_build_g rfl 40 _ rfl #[(0, .string name), (3, .int .u32 (as_ : Nat)), (9, .slice (some ⟨w.heap.size + 1, 0, none⟩) 1 1)] rfl (.agg (mkPr name as_ (w.heap.size + 1)).ar) (fun W => run_build W _ _ _ (by kernel_rfl)) ?_ | refine wpList_over_row rfl 40 (.tmp 4) (.tmp 8) rfl w.heap.size rfl (mkPr name as_ (w.heap.size + 1)).ar rfl 23 peerZ rfl rfl (H1.out _) (pr_ones _) ?_)
  intro V HC HG
  go_wp2_with fail
  try simp only [Exit.inBlock, Exit.then]
  refine bodyPost_ret (results_row1 rfl _ _ _ (mkPr name as_ (w.heap.size + 1)).ar rfl HC.out peerS 23 peerZ rfl) rfl ⟨⟨_, rfl, mkPr_ok ?_ HN.out HA.out⟩, ?_⟩
  · exact (HG.out.block _ (H2.out _).lt (fun e => by injection e with e; omega)).trans (H2.out _)
  · exact (H3.out _).grown HG.out (H3.out _).size (fun k hk => by injection hk with hk; omega)
def mkN : Nl := ⟨1, 0, ⟨#[10, 0, 0, 0]⟩, 8, 0, 0⟩
def mkA (n : Nat) : Atr := ⟨0, some ⟨n + 1 + 1, 0, none⟩, [⟨2, some ⟨n + 1, 0, none⟩, [65001], 1⟩], 1, ⟨#[10, 0, 0, 2]⟩, true, 5, false, 0, false, 0, 0, none, [], 0, none, [], 0, none, [], 0, false, 0, none, [], 0⟩
def mkPth (kind : Int) (n : Nat) : Pth := ⟨mkN, mkA n, kind, ⟨#[97]⟩, 65001, 9, ⟨#[]⟩, ⟨#[]⟩, false⟩
theorem mkA_ok {w : World} {n : Nat} (h1 : CellsAt w (n + 1) #[.int .u32 65001] 22) (h2 : CellsAt w (n + 1 + 1) #[.int .i64 2, .slice (some ⟨n + 1, 0, none⟩) 1 1] 67) : AtrOk w (mkA n) := by
  have hs : SgOk w ⟨2, some ⟨n + 1, 0, none⟩, [65001], 1⟩ := by
    refine ⟨fun _ => ⟨n + 1, 0, rfl, h1.lt, fun i cs hi j u hu => ?_⟩, Nat.le_refl _, show (1 : Nat) ≤ maxLen by decide, show ∀ n ∈ [65001], n < 4294967296 by decide, show (-9223372036854775808 : Int) ≤ 2 ∧ (2 : Int) ≤ 9223372036854775807 by decide⟩
    match i, hi with
    | 0, hi =>
      obtain rfl : [Value.int .u32 ((65001 : Nat) : Int)] = cs := Option.some.inj hi
      rw [show 0 + 0 * 1 + j = j by omega, h1.c, ← Array.getElem?_toList]
      exact hu
    | i + 1, hi => cases hi
  exact {
    prd := fun _ => ⟨n + 1 + 1, 0, rfl, h2.lt, fun i cs hi j u hu => by
      match i, hi with
      | 0, hi =>
        obtain rfl : [Value.int .i64 2, .slice (some ⟨n + 1, 0, none⟩) 1 1] = cs := Option.some.inj hi
        rw [show 0 + 0 * 2 + j = j by omega, h2.c, ← Array.getElem?_toList]
        exact hu
      | i + 1, hi => cases hi⟩
    segs := fun s hm => by
      obtain rfl := List.mem_singleton.1 hm
      exact hs
    plen := Nat.le_refl _
    pcap := show (1 : Nat) ≤ maxLen by decide
    next := show (4 : Nat) ≤ 9223372036854775807 by decide
    mrd := rd_none _ _
    mlen := Nat.le_refl _
    mcap := show (0 : Nat) ≤ maxLen by decide
    mfit := fun n h => by cases h
    xrd := rd_none _ _
    xlen := Nat.le_refl _
    xcap := show (0 : Nat) ≤ maxLen by decide
    xfit := fun n h => by cases h
    lrd := rd_none _ _
    llen := Nat.le_refl _
    lcap := show (0 : Nat) ≤ maxLen by decide
    lfit := fun n h => by cases h
    krd := rd_none _ _
    klen := Nat.le_refl _
    kcap := show (0 : Nat) ≤ maxLen by decide
    kfit := fun n h => by cases h
    ofit := show (-9223372036854775808 : Int) ≤ 0 ∧ (0 : Int) ≤ 9223372036854775807 by decide
    nfit := show (5 : Nat) < 4294967296 ∧ (0 : Nat) < 4294967296 ∧ (0 : Nat) < 4294967296 ∧ (0 : Nat) < 4294967296 ∧ (0 : Nat) < 4294967296 by decide }
theorem mkPth_ok {w : World} {n : Nat} {kind : Int} (hk : -9223372036854775808 ≤ kind ∧ kind ≤ 9223372036854775807) (h : AtrOk w (mkA n)) : PthOk w (mkPth kind n) :=
  ⟨⟨by show (-9223372036854775808 : Int) ≤ 1 ∧ (1 : Int) ≤ 9223372036854775807; decide, by show (0 : Int) ≤ 0 ∧ (0 : Int) < 18446744073709551616; decide, by show (4 : Nat) ≤ 9223372036854775807; decide, by show (-9223372036854775808 : Int) ≤ 8 ∧ (8 : Int) ≤ 9223372036854775807; decide, by show (0 : Int) ≤ 0 ∧ (0 : Int) < 4294967296; decide, by show (0 : Int) ≤ 0 ∧ (0 : Int) < 4294967296; decide⟩, h,
    ⟨by show 1 * 32 ≤ 140737488351232; decide, by show ∀ x ∈ [((2 : Int), [65001])], x.2.length * 4 ≤ 140737488351232; decide, by show 4 ≤ 140737488351232; decide, by show 0 * 4 ≤ 140737488351232; decide, by show 0 * 8 ≤ 140737488351232; decide, by show 0 * 12 ≤ 140737488351232; decide, by show 0 * 4 ≤ 140737488351232; decide⟩,
    by show 1 ≤ 9223372036854775807; decide, hk, by show 65001 < 4294967296 ∧ 9 < 4294967296; decide⟩
set_option maxRecDepth 100000 in
set_option maxHeartbeats 4000000 in
theorem path_any (kind : Int) (w : World) (hk : -9223372036854775808 ≤ kind ∧ kind ≤ 9223372036854775807) : Calls Tryz.prog 22 #[.int .i64 kind] w fun e w' => (∃ b, e = .returned (.agg (mkPth kind b).ar) ∧ PthOk w' (mkPth kind b)) ∧ Below w.heap.size w w' := by
  have HK := Lib.hid hk
  clear hk
  have H1 : Hid (∀ cs : Array Value, CellsAt (((w.alloc (.cells cs 37)).alloc (.cells #[.int .u32 65001] 22)).alloc (.cells #[.int .i64 2, .slice (some ⟨w.heap.size + 1, 0, none⟩) 1 1] 67)) w.heap.size cs 37) := fun cs => ((CellsAt.new _ _ _).alloc _).alloc _
  have H2 : Hid (∀ cs : Array Value, CellsAt (((w.alloc (.cells cs 37)).alloc (.cells #[.int .u32 65001] 22)).alloc (.cells #[.int .i64 2, .slice (some ⟨w.heap.size + 1, 0, none⟩) 1 1] 67)) (w.heap.size + 1) #[.int .u32 65001] 22) := fun cs => (new2b w _ _ _).alloc _
  have H3 : Hid (∀ cs : Array Value, CellsAt (((w.alloc (.cells cs 37)).alloc (.cells #[.int .u32 65001] 22)).alloc (.cells #[.int .i64 2, .slice (some ⟨w.heap.size + 1, 0, none⟩) 1 1] 67)) (w.heap.size + 1 + 1) #[.int .i64 2, .slice (some ⟨w.heap.size + 1, 0, none⟩) 1 1] 67) := fun cs => by
    have h := CellsAt.new ((w.alloc (.cells cs 37)).alloc (.cells #[.int .u32 65001] 22)) #[.int .i64 2, .slice (some ⟨w.heap.size + 1, 0, none⟩) 1 1] 67
    rwa [show ((w.alloc (.cells cs 37)).alloc (.cells #[.int .u32 65001] 22)).heap.size = w.heap.size + 1 + 1 by simp] at h
  have H4 : Hid (∀ cs : Array Value, Below w.heap.size w (((w.alloc (.cells cs 37)).alloc (.cells #[.int .u32 65001] 22)).alloc (.cells #[.int .i64 2, .slice (some ⟨w.heap.size + 1, 0, none⟩) 1 1] 67))) := fun cs => (below2 w _ _).alloc (by simp; omega) _
  go_enter Tryz.func22, Tryz.ntmps22
  go_wp2_with (with_reducible show wpList _ _ _ (_ :: _) _ _; first | refine wpList_build_g rfl 37 _ rfl #[(0, .agg mkN.pf), (3, .agg (mkA w.heap.size).ar), (4, .agg (mkPth kind w.heap.size).so)] rfl (.agg (mkPth kind w.heap.size).ar) (fun W => run_build W _ _ _ (by kernel_rfl)) ?_ | refine wpList_over_row rfl 37 (.tmp 2) (.tmp 10) rfl w.heap.size rfl (mkPth kind w.heap.size).ar rfl 29 pathZ rfl rfl (H1.out _) (pth_ones _) ?_)
  intro V HC HG
  go_wp2_with fail
  try simp only [Exit.inBlock, Exit.then]
  refine bodyPost_ret (results_row1 rfl _ _ _ (mkPth kind w.heap.size).ar rfl HC.out pathS 29 pathZ rfl) rfl ⟨⟨_, rfl, mkPth_ok HK.out (mkA_ok ?_ ?_)⟩, ?_⟩
  · exact (HG.out.block _ (H2.out _).lt (fun e => by injection e with e; omega)).trans (H2.out _)
  · exact (HG.out.block _ (H3.out _).lt (fun e => by injection e with e; omega)).trans (H3.out _)
  · exact (H4.out _).grown HG.out (H4.out _).size (fun k hk => by injection hk with hk; omega)
end Go.Proofs.YtojiieghjhjoaaaGreat
