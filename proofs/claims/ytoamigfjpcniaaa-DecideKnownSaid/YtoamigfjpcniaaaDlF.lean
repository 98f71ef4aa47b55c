/-
  DecideLoops walked. Conditions: sizes.
-/
import Derived.Test.YtoamigfjpcniaaaDlD
import Derived.Test.YtoamigfjpcniaaaDeQ
import Derived.Test.YtoamigfjpcniaaaDeV
import Derived.BigRegion
set_option linter.unusedVariables false
set_option linter.unusedSimpArgs false
namespace Go.Proofs.Ytoamigfjpcniaaa
open Go.RowKit Go.MapKept Go.Shelf
open Go.Lib hiding intOf

theorem cfg_size : (Try.prog.info? 68).map (·.size) = some 13 := by kernel_rfl
theorem cfg_under : ∃ fs, Try.prog.underlying 68 = some (.struct fs) := ⟨_, Try.underlying68⟩
theorem yields_cfg {ops : Array Oper} {S : World → Prop} {o : Oper} {a : Act} (hw : Region.wanted o (yielded ops a.tmps) = true) (src : Operand) (ho : o.op = .load 68 src)
    (b : Nat) (hx : a.eval src = .pointer (some ⟨b, 0, none⟩)) (p q r s : Int) (hS : ∀ w, S w → CellsAt w b (cfgC p q r s) 68) : YieldsIf Try.prog ops S o (.agg (cfgC p q r s)) a := by
  obtain ⟨fs, hu⟩ := cfg_under
  exact yieldsIf_load_mid hw 68 src ho b 0 hx (cfgC p q r s).toList _ (fun w h => (hS w h).range) hu rfl (by rw [cfg_size]; rfl)
theorem wpList_store_cfg {ops : Array Oper} {rest : List Oper} {op : Oper} {a : Act} {w : World} {Q : Exit → Act → World → Prop} {Z : Array Value} (n : Nat) (hn : w.heap.size = n) (hgd : op.guard = none) (x y : Operand) (ho : op.op = .store 68 x y) (hx : a.eval x = .pointer (some ⟨n, 0, none⟩)) (p q r s : Int) (hy : a.eval y = .agg (cfgC p q r s))
    (hZ : Z.size = 13) (h : wpList Try.prog ops Q rest (a.put op.dst undef) (w.alloc (.cells (cfgC p q r s) 68))) : wpList Try.prog ops Q (op :: rest) a (w.alloc (.cells Z 68)) := by
  subst hn
  refine wpList_store_new hgd x y ho hx hy (by rw [cfg_size]; rfl) hZ ?_ h
  exact Array.all_eq_true_iff_forall_mem.2 (fun u hu => by simp only [List.mem_toArray, List.mem_cons, List.not_mem_nil, or_false] at hu; rcases hu with rfl | rfl | rfl | rfl | rfl | rfl | rfl | rfl | rfl | rfl | rfl | rfl | rfl <;> rfl)
set_option maxRecDepth 100000 in
set_option maxHeartbeats 4000000 in
theorem lawloops_any (p : Pt) (a0 a1 i0 i1 : Int) (w : World) (h : PtOk w p) (hsz : (flatL p.segs).length ≤ 1048576) (hl2 : p.segs.length ≤ 1048576) :
    Calls Try.prog 6 #[p.v, .agg #[.int .u32 a0, .int .u32 a1], .agg #[.int .u32 i0, .int .u32 i1]] w fun e w' => e = .returned (.bool true) ∧ Below w.heap.size w w' := by
  have HOK := Lib.hid h
  have HLO := Lib.hid (fun W (h : PtOk W p) => loops_any a0 i0 a1 i1 p W h)
  have HRL := Lib.hid (fun W (h : PtOk W p) => rloops_any a0 i0 a1 i1 p W h hsz hl2)
  have HWK := Lib.hid works_any
  clear h hsz hl2
  have HC1 : Hid (CellsAt ((((w.alloc (.cells p.cs 38)).alloc (.cells #[.int .u32 a0, .int .u32 a1] 61)).alloc (.cells #[.int .u32 i0, .int .u32 i1] 61)).alloc (.cells (cfgC a0 i0 a1 i1) 68)) w.heap.size p.cs 38) := (((CellsAt.new _ _ _).alloc _).alloc _).alloc _
  have HC2 : Hid (CellsAt ((((w.alloc (.cells p.cs 38)).alloc (.cells #[.int .u32 a0, .int .u32 a1] 61)).alloc (.cells #[.int .u32 i0, .int .u32 i1] 61)).alloc (.cells (cfgC a0 i0 a1 i1) 68)) (w.heap.size + 1 + 1 + 1) (cfgC a0 i0 a1 i1) 68) := by
    have h := CellsAt.new (((w.alloc (.cells p.cs 38)).alloc (.cells #[.int .u32 a0, .int .u32 a1] 61)).alloc (.cells #[.int .u32 i0, .int .u32 i1] 61)) (cfgC a0 i0 a1 i1) 68
    rwa [show (((w.alloc (.cells p.cs 38)).alloc (.cells #[.int .u32 a0, .int .u32 a1] 61)).alloc (.cells #[.int .u32 i0, .int .u32 i1] 61)).heap.size = w.heap.size + 1 + 1 + 1 by simp] at h
  have HB1 : Hid (Below w.heap.size w ((((w.alloc (.cells p.cs 38)).alloc (.cells #[.int .u32 a0, .int .u32 a1] 61)).alloc (.cells #[.int .u32 i0, .int .u32 i1] 61)).alloc (.cells (cfgC a0 i0 a1 i1) 68))) := ((((Below.refl _ _).alloc (Nat.le_refl _) _).alloc (by simp) _).alloc (by simp; omega) _).alloc (by simp; omega) _
  rw [Pt.v_cs]
  go_enter Try.func6, Try.ntmps6
  go_wp2_with (with_reducible show wpList _ _ _ (_ :: _) _ _; refine wpList_store_cfg (w.heap.size + 1 + 1 + 1) (by simp) rfl (.tmp 7) (.tmp 16) rfl rfl a0 i0 a1 i1 rfl rfl ?_)
  generalize (((w.alloc (.cells p.cs 38)).alloc (.cells #[.int .u32 a0, .int .u32 a1] 61)).alloc (.cells #[.int .u32 i0, .int .u32 i1] 61)).alloc (.cells (cfgC a0 i0 a1 i1) 68) = W at HC1 HC2 HB1 ⊢
  have HOKW : Hid (PtOk W p) := HOK.out.below HB1.out (Nat.le_refl _)
  have hl1 := HC1.out.lt
  have hl2 := HC2.out.lt
  have hsW := HB1.out.size
  clear HOK
  generalize loopsF a0 i0 a1 i1 p = res at HLO HRL
  go_wp2_with fail
  refine wp_region_held_drew (S := fun w' => Below W.heap.size W w') (by kernel_rfl) (below_drewN (Below.refl _ _) 1) (fun hHeld => ?_)
  refine wpAnyH_take (i := 0) (oi := { dst := some 17, op := Op.load 68 (Operand.tmp 7), type := 68, pos := "law.go:107", after := #[], guard := none }) (v := .agg (cfgC a0 i0 a1 i1)) rfl (by kernel_rfl) (by kernel_rfl) (by kernel_rfl) (fun _ _ _ h => h) (yields_cfg (by rfl) _ rfl (w.heap.size + 1 + 1 + 1) (by rfl) a0 i0 a1 i1 (fun w h => HC2.out.below h hl2)) hHeld ?_
  try simp only [Act.put, List.setIfInBounds_toArray, List.set_cons_zero, List.set_cons_succ]
  refine wpAnyH_take (i := 1) (oi := { dst := some 18, op := Op.load 38 (Operand.tmp 3), type := 38, pos := "law.go:107", after := #[], guard := none }) (v := p.v) rfl (by kernel_rfl) (by kernel_rfl) (by kernel_rfl) (fun _ _ _ h => h) (yields_prange (by rfl) _ rfl w.heap.size 0 (by rfl) p (fun w h => rangeAt_below HC1.out.range h hl1)) hHeld ?_
  try simp only [Act.put, List.setIfInBounds_toArray, List.set_cons_zero, List.set_cons_succ]
  refine wpAnyH_take (i := 3) (oi := { dst := some 20, op := Op.load 68 (Operand.tmp 7), type := 68, pos := "law.go:107", after := #[], guard := none }) (v := .agg (cfgC a0 i0 a1 i1)) rfl (by kernel_rfl) (by kernel_rfl) (by kernel_rfl) (fun _ _ _ h => h) (yields_cfg (by rfl) _ rfl (w.heap.size + 1 + 1 + 1) (by rfl) a0 i0 a1 i1 (fun w h => HC2.out.below h hl2)) hHeld ?_
  try simp only [Act.put, List.setIfInBounds_toArray, List.set_cons_zero, List.set_cons_succ]
  refine wpAnyH_take (i := 4) (oi := { dst := some 21, op := Op.load 38 (Operand.tmp 3), type := 38, pos := "law.go:107", after := #[], guard := none }) (v := p.v) rfl (by kernel_rfl) (by kernel_rfl) (by kernel_rfl) (fun _ _ _ h => h) (yields_prange (by rfl) _ rfl w.heap.size 0 (by rfl) p (fun w h => rangeAt_below HC1.out.range h hl1)) hHeld ?_
  try simp only [Act.put, List.setIfInBounds_toArray, List.set_cons_zero, List.set_cons_succ]
  refine wpAnyH_ready (rs := [2]) (by kernel_rfl) (by simp) ?_
  refine AllReadyH.cons (o := { dst := some 19, op := Op.call { callee := Callee.value (Operand.func 28), args := #[Operand.tmp 17, Operand.tmp 18], argTypes := #[68, 38] }, type := 4, pos := "law.go:107", after := #[{ on := 0, ground := Ground.data }, { on := 1, ground := Ground.data }], guard := none }) rfl (fun K hK => ?_) AllReadyH.nil
  go_simp
  refine (HLO.out _ (HOKW.out.below hHeld (Nat.le_refl _))).mono ?_
  rintro e w6 ⟨rfl, hb9⟩
  go_wp2_with fail
  refine hK.out _ _ (hHeld.trans (hb9.mono hHeld.size)) (fun hHeld => ?_)
  clear hK K
  try simp only [Act.put, List.setIfInBounds_toArray, List.set_cons_zero, List.set_cons_succ]
  refine wpAnyH_ready (rs := [5]) (by kernel_rfl) (by simp) ?_
  refine AllReadyH.cons (o := { dst := some 22, op := Op.call { callee := Callee.value (Operand.func 29), args := #[Operand.tmp 20, Operand.tmp 21], argTypes := #[68, 38] }, type := 4, pos := "law.go:107", after := #[{ on := 3, ground := Ground.data }, { on := 4, ground := Ground.data }, { on := 2, ground := Ground.chain }], guard := none }) rfl (fun K hK => ?_) AllReadyH.nil
  go_simp
  refine (HRL.out _ (HOKW.out.below hHeld (Nat.le_refl _))).mono ?_
  rintro e w7 ⟨rfl, hb9⟩
  go_wp2_with fail
  refine hK.out _ _ (hHeld.trans (hb9.mono hHeld.size)) (fun hHeld => ?_)
  clear hK K
  try simp only [Act.put, List.setIfInBounds_toArray, List.set_cons_zero, List.set_cons_succ]
  refine wpAnyH_take (i := 6) (oi := { dst := some 23, op := Op.binOp BinOp.eql 4 (Operand.tmp 19) (Operand.tmp 22) 4, type := 4, pos := "law.go:107", after := #[{ on := 2, ground := Ground.data }, { on := 5, ground := Ground.data }], guard := none }) (v := .bool true) rfl (by kernel_rfl) (by kernel_rfl) (by kernel_rfl) (fun _ _ _ h => h) (Or.inl ⟨by rfl, ?_⟩) hHeld ?_
  · intro w hSw
    clear hSw
    go_simp
    all_goals first | rfl | simp
  try simp only [Act.put, List.setIfInBounds_toArray, List.set_cons_zero, List.set_cons_succ]
  refine wpAnyH_take (i := 7) (oi := { dst := some 24, op := Op.move (Operand.tmp 23), type := 4, pos := "law.go:107", after := #[{ on := 6, ground := Ground.data }, { on := 5, ground := Ground.chain }], guard := none }) (v := ?_) rfl (by kernel_rfl) (by kernel_rfl) (by kernel_rfl) (fun _ _ _ h => h) (Or.inl ⟨by rfl, ?_⟩) hHeld ?_
  rotate_left
  · intro w hSw
    clear hSw
    go_simp
    try with_reducible rfl
  try simp only [Act.put, List.setIfInBounds_toArray, List.set_cons_zero, List.set_cons_succ]
  refine wpAnyH_ready (rs := [8]) (by kernel_rfl) (by simp) ?_
  refine AllReadyH.cons (o := { dst := some 25, op := Op.call { callee := Callee.value (Operand.func 13), args := #[], argTypes := #[] }, type := 4, pos := "law.go:107", after := #[{ on := 7, ground := Ground.chain }, { on := 7, ground := Ground.guard }], guard := some (7, true) }) rfl (fun K hK => ?_) AllReadyH.nil
  go_simp
  refine (HWK.out _).mono ?_
  rintro e w8 ⟨rfl, hb9⟩
  go_wp2_with fail
  refine hK.out _ _ (hHeld.trans (hb9.mono hHeld.size)) (fun hHeld => ?_)
  clear hK K
  try simp only [Act.put, List.setIfInBounds_toArray, List.set_cons_zero, List.set_cons_succ]
  refine wpAnyH_take (i := 9) (oi := { dst := some 26, op := Op.pick (Operand.tmp 24) (Operand.tmp 25) (Operand.const (Value.bool false)), type := 4, pos := "law.go:107", after := #[{ on := 7, ground := Ground.data }, { on := 8, ground := Ground.data }], guard := none }) (v := ?_) rfl (by kernel_rfl) (by kernel_rfl) (by kernel_rfl) (fun _ _ _ h => h) (Or.inl ⟨by rfl, ?_⟩) hHeld ?_
  rotate_left
  · intro w hSw
    clear hSw
    go_simp
    try with_reducible rfl
  try simp only [Act.put, List.setIfInBounds_toArray, List.set_cons_zero, List.set_cons_succ]
  refine wpAnyH_take (i := 10) (oi := { dst := some 6, op := Op.assign (Operand.tmp 26), type := 4, pos := "law.go:107", after := #[{ on := 9, ground := Ground.data }, { on := 8, ground := Ground.chain }, { on := 0, ground := Ground.phase }, { on := 1, ground := Ground.phase }, { on := 2, ground := Ground.phase }, { on := 3, ground := Ground.phase }, { on := 4, ground := Ground.phase }, { on := 5, ground := Ground.phase }, { on := 6, ground := Ground.phase }, { on := 7, ground := Ground.phase }, { on := 8, ground := Ground.phase }, { on := 9, ground := Ground.phase }], guard := none }) (v := ?_) rfl (by kernel_rfl) (by kernel_rfl) (by kernel_rfl) (fun _ _ _ h => h) (Or.inl ⟨by rfl, ?_⟩) hHeld ?_
  rotate_left
  · intro w hSw
    clear hSw
    go_simp
    try with_reducible rfl
  try simp only [Act.put, List.setIfInBounds_toArray, List.set_cons_zero, List.set_cons_succ]
  refine wpAnyH_done (by kernel_rfl) ?_ _
  have HBE := Lib.hid hHeld
  clear hHeld
  go_wp2_with fail
  go_ret
  exact ⟨rfl, HB1.out.trans (HBE.out.mono hsW)⟩
end Go.Proofs.Ytoamigfjpcniaaa
