/-
  The steps' orders. Conditions: sizes.
-/
import Derived.Test.YtoamigfjpcniaaaDeC
import Derived.Deep.MidRow
import Derived.Deep.RegionHeld3
import Derived.BigRegion
set_option linter.unusedVariables false
set_option linter.unusedSimpArgs false
namespace Go.Proofs.Ytoamigfjpcniaaa
open Go.RowKit Go.MapKept Go.Shelf
open Go.Lib hiding intOf

/-- an entry's cells -/
def En.cs (x : En) : Array Value := #[.int .i64 x.p.pfam, .int .u64 x.p.prd, .string x.p.paddr, .int .i64 x.p.plen, .int .u32 x.p.id, .int .u32 x.p.label, .int .i64 x.p.origin, (.slice x.p.pA x.p.segs.length x.p.pC), .string x.p.next, .bool x.p.hasMed, .int .u32 x.p.med, .bool x.p.hasPref, .int .u32 x.p.pref, .bool x.p.atomic, .int .u32 x.p.aggAs, .int .u32 x.p.aggId, x.p.comms, x.p.exts, x.p.larges, .bool x.p.hasOrig, .int .u32 x.p.orig, (.slice x.p.cA x.p.clus.length x.p.cC), .int .i64 x.p.kind, .string x.p.peer, .int .u32 x.p.as_, .int .u32 x.p.sid, .string x.p.addr, .string x.p.vrf, .bool x.p.stale, .int .i64 x.at_, .int .i64 x.cost]
theorem En.v_cs (x : En) : x.v = .agg x.cs := rfl
theorem entry_size : (Try.prog.info? 79).map (·.size) = some 31 := by kernel_rfl
theorem entry_under : ∃ fs, Try.prog.underlying 79 = some (.struct fs) := ⟨_, Try.underlying79⟩
theorem yields_entry {ops : Array Oper} {S : World → Prop} {o : Oper} {a : Act} {T : TypeId} (hw : Region.wanted o (yielded ops a.tmps) = true) (src : Operand) (ho : o.op = .load 79 src)
    (b : Nat) (hx : a.eval src = .pointer (some ⟨b, 0, none⟩)) (x : En) (hS : ∀ w, S w → CellsAt w b x.cs T) : YieldsIf Try.prog ops S o x.v a := by
  obtain ⟨fs, hu⟩ := entry_under
  exact yieldsIf_load_mid hw 79 src ho b 0 hx x.cs.toList _ (fun w h j v hj => by rw [Nat.zero_add, cell_of_row w b j _ _ _ (hS w h)]; simpa using hj) hu rfl (by rw [entry_size]; rfl)
theorem load_entry {w : World} {b : Nat} {x : En} {T : TypeId} (h : CellsAt w b x.cs T) : (Instr.loadAt 79 (.pointer (some ⟨b, 0, none⟩))).run Try.prog w = .ok x.v w := by
  obtain ⟨fs, hu⟩ := entry_under
  exact run_loadAt_mid w b 0 79 x.cs.toList _ (fun j v hj => by rw [Nat.zero_add, cell_of_row w b j _ _ _ h]; simpa using hj) hu rfl (by rw [entry_size]; rfl)

/-- a path's cells, in an entry -/
def Pt.cs (p : Pt) : Array Value := #[.int .i64 p.pfam, .int .u64 p.prd, .string p.paddr, .int .i64 p.plen, .int .u32 p.id, .int .u32 p.label, .int .i64 p.origin, (.slice p.pA p.segs.length p.pC), .string p.next, .bool p.hasMed, .int .u32 p.med, .bool p.hasPref, .int .u32 p.pref, .bool p.atomic, .int .u32 p.aggAs, .int .u32 p.aggId, p.comms, p.exts, p.larges, .bool p.hasOrig, .int .u32 p.orig, (.slice p.cA p.clus.length p.cC), .int .i64 p.kind, .string p.peer, .int .u32 p.as_, .int .u32 p.sid, .string p.addr, .string p.vrf, .bool p.stale]
theorem path_size : (Try.prog.info? 38).map (·.size) = some 29 := by kernel_rfl
theorem path_under : ∃ fs, Try.prog.underlying 38 = some (.struct fs) := ⟨_, Try.underlying38⟩
theorem path_in (x : En) : x.cs.toList = x.p.cs.toList ++ [.int .i64 x.at_, .int .i64 x.cost] := rfl
theorem yields_path {ops : Array Oper} {S : World → Prop} {o : Oper} {a : Act} {T : TypeId} (hw : Region.wanted o (yielded ops a.tmps) = true) (src : Operand) (ho : o.op = .load 38 src)
    (b : Nat) (hx : a.eval src = .pointer (some ⟨b, 0, none⟩)) (x : En) (hS : ∀ w, S w → CellsAt w b x.cs T) : YieldsIf Try.prog ops S o x.p.v a := by
  obtain ⟨fs, hu⟩ := path_under
  exact yieldsIf_load_mid hw 38 src ho b 0 hx x.p.cs.toList _ (fun w h j v hj => by
    rw [Nat.zero_add, cell_of_row w b j _ _ _ (hS w h), ← Array.getElem?_toList, path_in, List.getElem?_append_left (List.getElem?_eq_some_iff.1 hj).1]
    exact hj) hu rfl (by rw [path_size]; rfl)
theorem cmpF_eq (x y : Int) : cmpF x y = Lib.compareInt x y := rfl

set_option maxHeartbeats 4000000 in
theorem ord1_any (x y : En) (w : World) : Calls Try.prog 55 #[x.v, y.v] w fun e w' => e = .returned (.int .i64 (Lib.compareInt (degF y.p) (degF x.p))) ∧ Below w.heap.size w w' := by
  have HS : Hid (CellsAt (((w.alloc (.cells x.cs 79)).alloc (.cells y.cs 79)).drew) w.heap.size x.cs 79 ∧ CellsAt (((w.alloc (.cells x.cs 79)).alloc (.cells y.cs 79)).drew) (w.heap.size + 1) y.cs 79 ∧ Below w.heap.size w (((w.alloc (.cells x.cs 79)).alloc (.cells y.cs 79)).drew)) := by
    have h1 : CellsAt (w.alloc (.cells x.cs 79)) w.heap.size x.cs 79 := CellsAt.new _ _ _
    have h2 : CellsAt ((w.alloc (.cells x.cs 79)).alloc (.cells y.cs 79)) (w.alloc (.cells x.cs 79)).heap.size y.cs 79 := CellsAt.new _ _ _
    have h3 : (w.alloc (.cells x.cs 79)).heap.size = w.heap.size + 1 := by simp
    rw [h3] at h2
    exact ⟨(h1.alloc _).drew 1, h2.drew 1, below_drewN (((Below.refl w.heap.size w).alloc (Nat.le_refl _) _).alloc (by simp) _) 1⟩
  rw [En.v_cs, En.v_cs]
  go_enter Try.func55, Try.ntmps55
  go_wp2_with fail
  refine wp_region_held_drew (S := fun w' => CellsAt w' w.heap.size x.cs 79 ∧ CellsAt w' (w.heap.size + 1) y.cs 79 ∧ Below w.heap.size w w') (by kernel_rfl) (HS.out) (fun hHeld => ?_)
  refine wpAnyH_take (i := 0) (oi := { dst := some 5, op := Op.fieldAddr 79 (Operand.tmp 3) 0, type := 0, pos := "decide.go:118", after := #[], guard := none }) (v := ?_) rfl (by kernel_rfl) (by kernel_rfl) (by kernel_rfl) (fun _ _ _ h => h) (Or.inl ⟨by rfl, ?_⟩) hHeld ?_
  rotate_left
  · intro w hSw
    clear hSw
    go_simp
    try with_reducible rfl
  try simp only [Act.put, List.setIfInBounds_toArray, List.set_cons_zero, List.set_cons_succ]
  refine wpAnyH_take (i := 3) (oi := { dst := some 8, op := Op.fieldAddr 79 (Operand.tmp 2) 0, type := 0, pos := "decide.go:118", after := #[], guard := none }) (v := ?_) rfl (by kernel_rfl) (by kernel_rfl) (by kernel_rfl) (fun _ _ _ h => h) (Or.inl ⟨by rfl, ?_⟩) hHeld ?_
  rotate_left
  · intro w hSw
    clear hSw
    go_simp
    try with_reducible rfl
  try simp only [Act.put, List.setIfInBounds_toArray, List.set_cons_zero, List.set_cons_succ]
  refine wpAnyH_take (i := 1) (oi := { dst := some 6, op := Op.load 38 (Operand.tmp 5), type := 38, pos := "decide.go:118", after := #[{ on := 0, ground := Ground.data }], guard := none }) (v := y.p.v) rfl (by kernel_rfl) (by kernel_rfl) (by kernel_rfl) (fun _ _ _ h => h) (yields_path (by rfl) _ rfl (w.heap.size + 1) (by rfl) y (fun w h => h.2.1)) hHeld ?_
  try simp only [Act.put, List.setIfInBounds_toArray, List.set_cons_zero, List.set_cons_succ]
  refine wpAnyH_take (i := 4) (oi := { dst := some 9, op := Op.load 38 (Operand.tmp 8), type := 38, pos := "decide.go:118", after := #[{ on := 3, ground := Ground.data }], guard := none }) (v := x.p.v) rfl (by kernel_rfl) (by kernel_rfl) (by kernel_rfl) (fun _ _ _ h => h) (yields_path (by rfl) _ rfl w.heap.size (by rfl) x (fun w h => h.1)) hHeld ?_
  try simp only [Act.put, List.setIfInBounds_toArray, List.set_cons_zero, List.set_cons_succ]
  refine wpAnyH_ready (rs := [2]) (by kernel_rfl) (by simp) ?_
  refine AllReadyH.cons (o := { dst := some 7, op := Op.call { callee := Callee.value (Operand.func 16), args := #[Operand.tmp 6], argTypes := #[38] }, type := 28, pos := "decide.go:118", after := #[{ on := 1, ground := Ground.data }], guard := none }) rfl (fun K hK => ?_) AllReadyH.nil
  go_simp
  refine (degree_any y.p _).mono ?_
  rintro e w9 ⟨rfl, hb⟩
  go_wp2_with fail
  refine hK.out _ _ (And.intro (hHeld.1.below hb hHeld.1.lt) (And.intro (hHeld.2.1.below hb hHeld.2.1.lt) (hHeld.2.2.trans (hb.mono hHeld.2.2.size)))) (fun hHeld => ?_)
  clear hK K
  try simp only [Act.put, List.setIfInBounds_toArray, List.set_cons_zero, List.set_cons_succ]
  refine wpAnyH_ready (rs := [5]) (by kernel_rfl) (by simp) ?_
  refine AllReadyH.cons (o := { dst := some 10, op := Op.call { callee := Callee.value (Operand.func 16), args := #[Operand.tmp 9], argTypes := #[38] }, type := 28, pos := "decide.go:118", after := #[{ on := 4, ground := Ground.data }, { on := 2, ground := Ground.chain }], guard := none }) rfl (fun K hK => ?_) AllReadyH.nil
  go_simp
  refine (degree_any x.p _).mono ?_
  rintro e w9 ⟨rfl, hb⟩
  go_wp2_with fail
  refine hK.out _ _ (And.intro (hHeld.1.below hb hHeld.1.lt) (And.intro (hHeld.2.1.below hb hHeld.2.1.lt) (hHeld.2.2.trans (hb.mono hHeld.2.2.size)))) (fun hHeld => ?_)
  clear hK K
  try simp only [Act.put, List.setIfInBounds_toArray, List.set_cons_zero, List.set_cons_succ]
  refine wpAnyH_ready (rs := [6]) (by kernel_rfl) (by simp) ?_
  refine AllReadyH.cons (o := { dst := some 11, op := Op.call { callee := Callee.value (Operand.func 56), args := #[Operand.tmp 7, Operand.tmp 10], argTypes := #[28, 28] }, type := 3, pos := "decide.go:118", after := #[{ on := 2, ground := Ground.data }, { on := 5, ground := Ground.data }, { on := 5, ground := Ground.chain }], guard := none }) rfl (fun K hK => ?_) AllReadyH.nil
  go_simp
  refine (cmp32_any _ _ _).mono ?_
  rintro e w9 ⟨rfl, hw9⟩
  rw [hw9]
  clear hw9
  go_wp2_with fail
  refine hK.out _ _ (hHeld) (fun hHeld => ?_)
  clear hK K
  try simp only [Act.put, List.setIfInBounds_toArray, List.set_cons_zero, List.set_cons_succ]
  refine wpAnyH_take (i := 7) (oi := { dst := some 4, op := Op.assign (Operand.tmp 11), type := 3, pos := "decide.go:118", after := #[{ on := 6, ground := Ground.data }, { on := 6, ground := Ground.chain }, { on := 0, ground := Ground.phase }, { on := 1, ground := Ground.phase }, { on := 2, ground := Ground.phase }, { on := 3, ground := Ground.phase }, { on := 4, ground := Ground.phase }, { on := 5, ground := Ground.phase }, { on := 6, ground := Ground.phase }], guard := none }) (v := ?_) rfl (by kernel_rfl) (by kernel_rfl) (by kernel_rfl) (fun _ _ _ h => h) (Or.inl ⟨by rfl, ?_⟩) hHeld ?_
  rotate_left
  · intro w hSw
    clear hSw
    go_simp
    try with_reducible rfl
  try simp only [Act.put, List.setIfInBounds_toArray, List.set_cons_zero, List.set_cons_succ]
  refine wpAnyH_done (by kernel_rfl) ?_ _
  have HB := hHeld.2.2
  clear hHeld
  go_wp2_with fail
  go_ret
  exact ⟨rfl, HB⟩
set_option maxHeartbeats 4000000 in
theorem ord2_any (x y : En) (w : World) : Calls Try.prog 57 #[x.v, y.v] w fun e w' => e = .returned (.int .i64 (Lib.compareInt (locF x.p) (locF y.p))) ∧ Below w.heap.size w w' := by
  have HS : Hid (CellsAt (((w.alloc (.cells x.cs 79)).alloc (.cells y.cs 79)).drew) w.heap.size x.cs 79 ∧ CellsAt (((w.alloc (.cells x.cs 79)).alloc (.cells y.cs 79)).drew) (w.heap.size + 1) y.cs 79 ∧ Below w.heap.size w (((w.alloc (.cells x.cs 79)).alloc (.cells y.cs 79)).drew)) := by
    have h1 : CellsAt (w.alloc (.cells x.cs 79)) w.heap.size x.cs 79 := CellsAt.new _ _ _
    have h2 : CellsAt ((w.alloc (.cells x.cs 79)).alloc (.cells y.cs 79)) (w.alloc (.cells x.cs 79)).heap.size y.cs 79 := CellsAt.new _ _ _
    have h3 : (w.alloc (.cells x.cs 79)).heap.size = w.heap.size + 1 := by simp
    rw [h3] at h2
    exact ⟨(h1.alloc _).drew 1, h2.drew 1, below_drewN (((Below.refl w.heap.size w).alloc (Nat.le_refl _) _).alloc (by simp) _) 1⟩
  rw [En.v_cs, En.v_cs]
  go_enter Try.func57, Try.ntmps57
  go_wp2_with fail
  refine wp_region_held_drew (S := fun w' => CellsAt w' w.heap.size x.cs 79 ∧ CellsAt w' (w.heap.size + 1) y.cs 79 ∧ Below w.heap.size w w') (by kernel_rfl) (HS.out) (fun hHeld => ?_)
  refine wpAnyH_take (i := 0) (oi := { dst := some 5, op := Op.load 79 (Operand.tmp 2), type := 79, pos := "decide.go:119", after := #[], guard := none }) (v := x.v) rfl (by kernel_rfl) (by kernel_rfl) (by kernel_rfl) (fun _ _ _ h => h) (yields_entry (by rfl) _ rfl w.heap.size (by rfl) x (fun w h => h.1)) hHeld ?_
  try simp only [Act.put, List.setIfInBounds_toArray, List.set_cons_zero, List.set_cons_succ]
  refine wpAnyH_take (i := 2) (oi := { dst := some 7, op := Op.load 79 (Operand.tmp 3), type := 79, pos := "decide.go:119", after := #[], guard := none }) (v := y.v) rfl (by kernel_rfl) (by kernel_rfl) (by kernel_rfl) (fun _ _ _ h => h) (yields_entry (by rfl) _ rfl (w.heap.size + 1) (by rfl) y (fun w h => h.2.1)) hHeld ?_
  try simp only [Act.put, List.setIfInBounds_toArray, List.set_cons_zero, List.set_cons_succ]
  refine wpAnyH_ready (rs := [1]) (by kernel_rfl) (by simp) ?_
  refine AllReadyH.cons (o := { dst := some 6, op := Op.call { callee := Callee.value (Operand.func 59), args := #[Operand.tmp 5], argTypes := #[79] }, type := 3, pos := "decide.go:119", after := #[{ on := 0, ground := Ground.data }], guard := none }) rfl (fun K hK => ?_) AllReadyH.nil
  go_simp
  refine (local_any x _).mono ?_
  rintro e w9 ⟨rfl, hb⟩
  go_wp2_with fail
  refine hK.out _ _ (And.intro (hHeld.1.below hb hHeld.1.lt) (And.intro (hHeld.2.1.below hb hHeld.2.1.lt) (hHeld.2.2.trans (hb.mono hHeld.2.2.size)))) (fun hHeld => ?_)
  clear hK K
  try simp only [Act.put, List.setIfInBounds_toArray, List.set_cons_zero, List.set_cons_succ]
  refine wpAnyH_ready (rs := [3]) (by kernel_rfl) (by simp) ?_
  refine AllReadyH.cons (o := { dst := some 8, op := Op.call { callee := Callee.value (Operand.func 59), args := #[Operand.tmp 7], argTypes := #[79] }, type := 3, pos := "decide.go:119", after := #[{ on := 2, ground := Ground.data }, { on := 1, ground := Ground.chain }], guard := none }) rfl (fun K hK => ?_) AllReadyH.nil
  go_simp
  refine (local_any y _).mono ?_
  rintro e w9 ⟨rfl, hb⟩
  go_wp2_with fail
  refine hK.out _ _ (And.intro (hHeld.1.below hb hHeld.1.lt) (And.intro (hHeld.2.1.below hb hHeld.2.1.lt) (hHeld.2.2.trans (hb.mono hHeld.2.2.size)))) (fun hHeld => ?_)
  clear hK K
  try simp only [Act.put, List.setIfInBounds_toArray, List.set_cons_zero, List.set_cons_succ]
  refine wpAnyH_ready (rs := [4]) (by kernel_rfl) (by simp) ?_
  refine AllReadyH.cons (o := { dst := some 9, op := Op.call { callee := Callee.value (Operand.func 58), args := #[Operand.tmp 6, Operand.tmp 8], argTypes := #[3, 3] }, type := 3, pos := "decide.go:119", after := #[{ on := 1, ground := Ground.data }, { on := 3, ground := Ground.data }, { on := 3, ground := Ground.chain }], guard := none }) rfl (fun K hK => ?_) AllReadyH.nil
  go_simp
  refine (Try.cmp_Compare_int _ _ _).mono ?_
  rintro e w9 ⟨rfl, hw9⟩
  rw [hw9]
  clear hw9
  go_wp2_with fail
  refine hK.out _ _ (hHeld) (fun hHeld => ?_)
  clear hK K
  try simp only [Act.put, List.setIfInBounds_toArray, List.set_cons_zero, List.set_cons_succ]
  refine wpAnyH_take (i := 5) (oi := { dst := some 4, op := Op.assign (Operand.tmp 9), type := 3, pos := "decide.go:119", after := #[{ on := 4, ground := Ground.data }, { on := 4, ground := Ground.chain }, { on := 0, ground := Ground.phase }, { on := 1, ground := Ground.phase }, { on := 2, ground := Ground.phase }, { on := 3, ground := Ground.phase }, { on := 4, ground := Ground.phase }], guard := none }) (v := ?_) rfl (by kernel_rfl) (by kernel_rfl) (by kernel_rfl) (fun _ _ _ h => h) (Or.inl ⟨by rfl, ?_⟩) hHeld ?_
  rotate_left
  · intro w hSw
    clear hSw
    go_simp
    try with_reducible rfl
  try simp only [Act.put, List.setIfInBounds_toArray, List.set_cons_zero, List.set_cons_succ]
  refine wpAnyH_done (by kernel_rfl) ?_ _
  have HB := hHeld.2.2
  clear hHeld
  go_wp2_with fail
  go_ret
  exact ⟨rfl, HB⟩
set_option maxHeartbeats 4000000 in
theorem ord3_any (x y : En) (w : World) (hx : PtOk w x.p) (hy : PtOk w y.p) : Calls Try.prog 60 #[x.v, y.v] w fun e w' => e = .returned (.int .i64 (Lib.compareInt (lenF x.p.segs) (lenF y.p.segs))) ∧ Below w.heap.size w w' := by
  have HX := Lib.hid hx
  have HY := Lib.hid hy
  clear hx hy
  have HS : Hid (CellsAt (((w.alloc (.cells x.cs 79)).alloc (.cells y.cs 79)).drew) w.heap.size x.cs 79 ∧ CellsAt (((w.alloc (.cells x.cs 79)).alloc (.cells y.cs 79)).drew) (w.heap.size + 1) y.cs 79 ∧ Below w.heap.size w (((w.alloc (.cells x.cs 79)).alloc (.cells y.cs 79)).drew)) := by
    have h1 : CellsAt (w.alloc (.cells x.cs 79)) w.heap.size x.cs 79 := CellsAt.new _ _ _
    have h2 : CellsAt ((w.alloc (.cells x.cs 79)).alloc (.cells y.cs 79)) (w.alloc (.cells x.cs 79)).heap.size y.cs 79 := CellsAt.new _ _ _
    have h3 : (w.alloc (.cells x.cs 79)).heap.size = w.heap.size + 1 := by simp
    rw [h3] at h2
    exact ⟨(h1.alloc _).drew 1, h2.drew 1, below_drewN (((Below.refl w.heap.size w).alloc (Nat.le_refl _) _).alloc (by simp) _) 1⟩
  rw [En.v_cs, En.v_cs]
  go_enter Try.func60, Try.ntmps60
  go_wp2_with fail
  refine wp_region_held_drew (S := fun w' => CellsAt w' w.heap.size x.cs 79 ∧ CellsAt w' (w.heap.size + 1) y.cs 79 ∧ Below w.heap.size w w') (by kernel_rfl) (HS.out) (fun hHeld => ?_)
  refine wpAnyH_take (i := 0) (oi := { dst := some 5, op := Op.fieldAddr 79 (Operand.tmp 2) 0, type := 0, pos := "decide.go:121", after := #[], guard := none }) (v := ?_) rfl (by kernel_rfl) (by kernel_rfl) (by kernel_rfl) (fun _ _ _ h => h) (Or.inl ⟨by rfl, ?_⟩) hHeld ?_
  rotate_left
  · intro w hSw
    clear hSw
    go_simp
    try with_reducible rfl
  try simp only [Act.put, List.setIfInBounds_toArray, List.set_cons_zero, List.set_cons_succ]
  refine wpAnyH_take (i := 1) (oi := { dst := some 6, op := Op.fieldAddr 38 (Operand.tmp 5) 3, type := 0, pos := "decide.go:121", after := #[{ on := 0, ground := Ground.data }], guard := none }) (v := ?_) rfl (by kernel_rfl) (by kernel_rfl) (by kernel_rfl) (fun _ _ _ h => h) (Or.inl ⟨by rfl, ?_⟩) hHeld ?_
  rotate_left
  · intro w hSw
    clear hSw
    go_simp
    try with_reducible rfl
  try simp only [Act.put, List.setIfInBounds_toArray, List.set_cons_zero, List.set_cons_succ]
  refine wpAnyH_take (i := 2) (oi := { dst := some 7, op := Op.fieldAddr 34 (Operand.tmp 6) 1, type := 0, pos := "decide.go:121", after := #[{ on := 1, ground := Ground.data }], guard := none }) (v := ?_) rfl (by kernel_rfl) (by kernel_rfl) (by kernel_rfl) (fun _ _ _ h => h) (Or.inl ⟨by rfl, ?_⟩) hHeld ?_
  rotate_left
  · intro w hSw
    clear hSw
    go_simp
    try with_reducible rfl
  try simp only [Act.put, List.setIfInBounds_toArray, List.set_cons_zero, List.set_cons_succ]
  refine wpAnyH_take (i := 5) (oi := { dst := some 10, op := Op.fieldAddr 79 (Operand.tmp 3) 0, type := 0, pos := "decide.go:121", after := #[], guard := none }) (v := ?_) rfl (by kernel_rfl) (by kernel_rfl) (by kernel_rfl) (fun _ _ _ h => h) (Or.inl ⟨by rfl, ?_⟩) hHeld ?_
  rotate_left
  · intro w hSw
    clear hSw
    go_simp
    try with_reducible rfl
  try simp only [Act.put, List.setIfInBounds_toArray, List.set_cons_zero, List.set_cons_succ]
  refine wpAnyH_take (i := 6) (oi := { dst := some 11, op := Op.fieldAddr 38 (Operand.tmp 10) 3, type := 0, pos := "decide.go:121", after := #[{ on := 5, ground := Ground.data }], guard := none }) (v := ?_) rfl (by kernel_rfl) (by kernel_rfl) (by kernel_rfl) (fun _ _ _ h => h) (Or.inl ⟨by rfl, ?_⟩) hHeld ?_
  rotate_left
  · intro w hSw
    clear hSw
    go_simp
    try with_reducible rfl
  try simp only [Act.put, List.setIfInBounds_toArray, List.set_cons_zero, List.set_cons_succ]
  refine wpAnyH_take (i := 7) (oi := { dst := some 12, op := Op.fieldAddr 34 (Operand.tmp 11) 1, type := 0, pos := "decide.go:121", after := #[{ on := 6, ground := Ground.data }], guard := none }) (v := ?_) rfl (by kernel_rfl) (by kernel_rfl) (by kernel_rfl) (fun _ _ _ h => h) (Or.inl ⟨by rfl, ?_⟩) hHeld ?_
  rotate_left
  · intro w hSw
    clear hSw
    go_simp
    try with_reducible rfl
  try simp only [Act.put, List.setIfInBounds_toArray, List.set_cons_zero, List.set_cons_succ]
  refine wpAnyH_take (i := 3) (oi := { dst := some 8, op := Op.load 29 (Operand.tmp 7), type := 29, pos := "decide.go:121", after := #[{ on := 2, ground := Ground.data }], guard := none }) (v := ?_) rfl (by kernel_rfl) (by kernel_rfl) (by kernel_rfl) (fun _ _ _ h => h) (Or.inl ⟨by rfl, ?_⟩) hHeld ?_
  rotate_left
  · intro w hSw
    obtain ⟨q1, q2, q3⟩ := hSw
    have l1 := (q1.c 7).trans (show x.cs[7]? = some (.slice x.p.pA x.p.segs.length x.p.pC) from rfl)
    have l2 := (q2.c 7).trans (show y.cs[7]? = some (.slice y.p.pA y.p.segs.length y.p.pC) from rfl)
    go_simp
    try with_reducible rfl
  try simp only [Act.put, List.setIfInBounds_toArray, List.set_cons_zero, List.set_cons_succ]
  refine wpAnyH_take (i := 8) (oi := { dst := some 13, op := Op.load 29 (Operand.tmp 12), type := 29, pos := "decide.go:121", after := #[{ on := 7, ground := Ground.data }], guard := none }) (v := ?_) rfl (by kernel_rfl) (by kernel_rfl) (by kernel_rfl) (fun _ _ _ h => h) (Or.inl ⟨by rfl, ?_⟩) hHeld ?_
  rotate_left
  · intro w hSw
    obtain ⟨q1, q2, q3⟩ := hSw
    have l1 := (q1.c 7).trans (show x.cs[7]? = some (.slice x.p.pA x.p.segs.length x.p.pC) from rfl)
    have l2 := (q2.c 7).trans (show y.cs[7]? = some (.slice y.p.pA y.p.segs.length y.p.pC) from rfl)
    go_simp
    try with_reducible rfl
  try simp only [Act.put, List.setIfInBounds_toArray, List.set_cons_zero, List.set_cons_succ]
  refine wpAnyH_ready (rs := [4]) (by kernel_rfl) (by simp) ?_
  refine AllReadyH.cons (o := { dst := some 9, op := Op.call { callee := Callee.value (Operand.func 17), args := #[Operand.tmp 8], argTypes := #[29] }, type := 3, pos := "decide.go:121", after := #[{ on := 3, ground := Ground.data }], guard := none }) rfl (fun K hK => ?_) AllReadyH.nil
  go_simp
  refine (length_any x.p.pA x.p.segs x.p.pC _ (HX.out.rd.below hHeld.2.2 (Nat.le_refl _)) HX.out.len HX.out.cap).mono ?_
  rintro e w9 ⟨rfl, hb⟩
  go_wp2_with fail
  refine hK.out _ _ (And.intro (hHeld.1.below hb hHeld.1.lt) (And.intro (hHeld.2.1.below hb hHeld.2.1.lt) (hHeld.2.2.trans (hb.mono hHeld.2.2.size)))) (fun hHeld => ?_)
  clear hK K
  try simp only [Act.put, List.setIfInBounds_toArray, List.set_cons_zero, List.set_cons_succ]
  refine wpAnyH_ready (rs := [9]) (by kernel_rfl) (by simp) ?_
  refine AllReadyH.cons (o := { dst := some 14, op := Op.call { callee := Callee.value (Operand.func 17), args := #[Operand.tmp 13], argTypes := #[29] }, type := 3, pos := "decide.go:121", after := #[{ on := 8, ground := Ground.data }, { on := 4, ground := Ground.chain }], guard := none }) rfl (fun K hK => ?_) AllReadyH.nil
  go_simp
  refine (length_any y.p.pA y.p.segs y.p.pC _ (HY.out.rd.below hHeld.2.2 (Nat.le_refl _)) HY.out.len HY.out.cap).mono ?_
  rintro e w9 ⟨rfl, hb⟩
  go_wp2_with fail
  refine hK.out _ _ (And.intro (hHeld.1.below hb hHeld.1.lt) (And.intro (hHeld.2.1.below hb hHeld.2.1.lt) (hHeld.2.2.trans (hb.mono hHeld.2.2.size)))) (fun hHeld => ?_)
  clear hK K
  try simp only [Act.put, List.setIfInBounds_toArray, List.set_cons_zero, List.set_cons_succ]
  refine wpAnyH_ready (rs := [10]) (by kernel_rfl) (by simp) ?_
  refine AllReadyH.cons (o := { dst := some 15, op := Op.call { callee := Callee.value (Operand.func 58), args := #[Operand.tmp 9, Operand.tmp 14], argTypes := #[3, 3] }, type := 3, pos := "decide.go:121", after := #[{ on := 4, ground := Ground.data }, { on := 9, ground := Ground.data }, { on := 9, ground := Ground.chain }], guard := none }) rfl (fun K hK => ?_) AllReadyH.nil
  go_simp
  refine (Try.cmp_Compare_int _ _ _).mono ?_
  rintro e w9 ⟨rfl, hw9⟩
  rw [hw9]
  clear hw9
  go_wp2_with fail
  refine hK.out _ _ (hHeld) (fun hHeld => ?_)
  clear hK K
  try simp only [Act.put, List.setIfInBounds_toArray, List.set_cons_zero, List.set_cons_succ]
  refine wpAnyH_take (i := 11) (oi := { dst := some 4, op := Op.assign (Operand.tmp 15), type := 3, pos := "decide.go:121", after := #[{ on := 10, ground := Ground.data }, { on := 10, ground := Ground.chain }, { on := 0, ground := Ground.phase }, { on := 1, ground := Ground.phase }, { on := 2, ground := Ground.phase }, { on := 3, ground := Ground.phase }, { on := 4, ground := Ground.phase }, { on := 5, ground := Ground.phase }, { on := 6, ground := Ground.phase }, { on := 7, ground := Ground.phase }, { on := 8, ground := Ground.phase }, { on := 9, ground := Ground.phase }, { on := 10, ground := Ground.phase }], guard := none }) (v := ?_) rfl (by kernel_rfl) (by kernel_rfl) (by kernel_rfl) (fun _ _ _ h => h) (Or.inl ⟨by rfl, ?_⟩) hHeld ?_
  rotate_left
  · intro w hSw
    clear hSw
    go_simp
    try with_reducible rfl
  try simp only [Act.put, List.setIfInBounds_toArray, List.set_cons_zero, List.set_cons_succ]
  refine wpAnyH_done (by kernel_rfl) ?_ _
  have HB := hHeld.2.2
  clear hHeld
  go_wp2_with fail
  go_ret
  exact ⟨rfl, HB⟩
theorem ord4_any (x y : En) (w : World) : Calls Try.prog 61 #[x.v, y.v] w fun e w' => e = .returned (.int .i64 (Lib.compareInt x.p.origin y.p.origin)) ∧ Below w.heap.size w w' := by
  have HA := Lib.hid (fun c1 c2 => ((Below.refl w.heap.size w).alloc (Nat.le_refl _) (.cells c1 79)).alloc (by simp) (.cells c2 79))
  unfold En.v
  go_enter Try.func61, Try.ntmps61
  go_wp2_with fail
  refine (Try.cmp_Compare_int _ _ _).mono ?_
  rintro e wq ⟨rfl, hw⟩
  have hw := hw.symm
  subst hw
  go_wp2_with fail
  go_ret
  exact ⟨rfl, HA.out _ _⟩
set_option maxHeartbeats 4000000 in
theorem ord5_any (x y : En) (w : World) : Calls Try.prog 63 #[x.v, y.v] w fun e w' => e = .returned (.int .i64 (Lib.compareInt (rankF x.p) (rankF y.p))) ∧ Below w.heap.size w w' := by
  have HS : Hid (CellsAt (((w.alloc (.cells x.cs 79)).alloc (.cells y.cs 79)).drew) w.heap.size x.cs 79 ∧ CellsAt (((w.alloc (.cells x.cs 79)).alloc (.cells y.cs 79)).drew) (w.heap.size + 1) y.cs 79 ∧ Below w.heap.size w (((w.alloc (.cells x.cs 79)).alloc (.cells y.cs 79)).drew)) := by
    have h1 : CellsAt (w.alloc (.cells x.cs 79)) w.heap.size x.cs 79 := CellsAt.new _ _ _
    have h2 : CellsAt ((w.alloc (.cells x.cs 79)).alloc (.cells y.cs 79)) (w.alloc (.cells x.cs 79)).heap.size y.cs 79 := CellsAt.new _ _ _
    have h3 : (w.alloc (.cells x.cs 79)).heap.size = w.heap.size + 1 := by simp
    rw [h3] at h2
    exact ⟨(h1.alloc _).drew 1, h2.drew 1, below_drewN (((Below.refl w.heap.size w).alloc (Nat.le_refl _) _).alloc (by simp) _) 1⟩
  rw [En.v_cs, En.v_cs]
  go_enter Try.func63, Try.ntmps63
  go_wp2_with fail
  refine wp_region_held_drew (S := fun w' => CellsAt w' w.heap.size x.cs 79 ∧ CellsAt w' (w.heap.size + 1) y.cs 79 ∧ Below w.heap.size w w') (by kernel_rfl) (HS.out) (fun hHeld => ?_)
  refine wpAnyH_take (i := 0) (oi := { dst := some 5, op := Op.load 79 (Operand.tmp 2), type := 79, pos := "decide.go:125", after := #[], guard := none }) (v := x.v) rfl (by kernel_rfl) (by kernel_rfl) (by kernel_rfl) (fun _ _ _ h => h) (yields_entry (by rfl) _ rfl w.heap.size (by rfl) x (fun w h => h.1)) hHeld ?_
  try simp only [Act.put, List.setIfInBounds_toArray, List.set_cons_zero, List.set_cons_succ]
  refine wpAnyH_take (i := 2) (oi := { dst := some 7, op := Op.load 79 (Operand.tmp 3), type := 79, pos := "decide.go:125", after := #[], guard := none }) (v := y.v) rfl (by kernel_rfl) (by kernel_rfl) (by kernel_rfl) (fun _ _ _ h => h) (yields_entry (by rfl) _ rfl (w.heap.size + 1) (by rfl) y (fun w h => h.2.1)) hHeld ?_
  try simp only [Act.put, List.setIfInBounds_toArray, List.set_cons_zero, List.set_cons_succ]
  refine wpAnyH_ready (rs := [1]) (by kernel_rfl) (by simp) ?_
  refine AllReadyH.cons (o := { dst := some 6, op := Op.call { callee := Callee.value (Operand.func 64), args := #[Operand.tmp 5], argTypes := #[79] }, type := 3, pos := "decide.go:125", after := #[{ on := 0, ground := Ground.data }], guard := none }) rfl (fun K hK => ?_) AllReadyH.nil
  go_simp
  refine (rank_any x _).mono ?_
  rintro e w9 ⟨rfl, hb⟩
  go_wp2_with fail
  refine hK.out _ _ (And.intro (hHeld.1.below hb hHeld.1.lt) (And.intro (hHeld.2.1.below hb hHeld.2.1.lt) (hHeld.2.2.trans (hb.mono hHeld.2.2.size)))) (fun hHeld => ?_)
  clear hK K
  try simp only [Act.put, List.setIfInBounds_toArray, List.set_cons_zero, List.set_cons_succ]
  refine wpAnyH_ready (rs := [3]) (by kernel_rfl) (by simp) ?_
  refine AllReadyH.cons (o := { dst := some 8, op := Op.call { callee := Callee.value (Operand.func 64), args := #[Operand.tmp 7], argTypes := #[79] }, type := 3, pos := "decide.go:125", after := #[{ on := 2, ground := Ground.data }, { on := 1, ground := Ground.chain }], guard := none }) rfl (fun K hK => ?_) AllReadyH.nil
  go_simp
  refine (rank_any y _).mono ?_
  rintro e w9 ⟨rfl, hb⟩
  go_wp2_with fail
  refine hK.out _ _ (And.intro (hHeld.1.below hb hHeld.1.lt) (And.intro (hHeld.2.1.below hb hHeld.2.1.lt) (hHeld.2.2.trans (hb.mono hHeld.2.2.size)))) (fun hHeld => ?_)
  clear hK K
  try simp only [Act.put, List.setIfInBounds_toArray, List.set_cons_zero, List.set_cons_succ]
  refine wpAnyH_ready (rs := [4]) (by kernel_rfl) (by simp) ?_
  refine AllReadyH.cons (o := { dst := some 9, op := Op.call { callee := Callee.value (Operand.func 58), args := #[Operand.tmp 6, Operand.tmp 8], argTypes := #[3, 3] }, type := 3, pos := "decide.go:125", after := #[{ on := 1, ground := Ground.data }, { on := 3, ground := Ground.data }, { on := 3, ground := Ground.chain }], guard := none }) rfl (fun K hK => ?_) AllReadyH.nil
  go_simp
  refine (Try.cmp_Compare_int _ _ _).mono ?_
  rintro e w9 ⟨rfl, hw9⟩
  rw [hw9]
  clear hw9
  go_wp2_with fail
  refine hK.out _ _ (hHeld) (fun hHeld => ?_)
  clear hK K
  try simp only [Act.put, List.setIfInBounds_toArray, List.set_cons_zero, List.set_cons_succ]
  refine wpAnyH_take (i := 5) (oi := { dst := some 4, op := Op.assign (Operand.tmp 9), type := 3, pos := "decide.go:125", after := #[{ on := 4, ground := Ground.data }, { on := 4, ground := Ground.chain }, { on := 0, ground := Ground.phase }, { on := 1, ground := Ground.phase }, { on := 2, ground := Ground.phase }, { on := 3, ground := Ground.phase }, { on := 4, ground := Ground.phase }], guard := none }) (v := ?_) rfl (by kernel_rfl) (by kernel_rfl) (by kernel_rfl) (fun _ _ _ h => h) (Or.inl ⟨by rfl, ?_⟩) hHeld ?_
  rotate_left
  · intro w hSw
    clear hSw
    go_simp
    try with_reducible rfl
  try simp only [Act.put, List.setIfInBounds_toArray, List.set_cons_zero, List.set_cons_succ]
  refine wpAnyH_done (by kernel_rfl) ?_ _
  have HB := hHeld.2.2
  clear hHeld
  go_wp2_with fail
  go_ret
  exact ⟨rfl, HB⟩
theorem ord6_any (x y : En) (w : World) : Calls Try.prog 65 #[x.v, y.v] w fun e w' => e = .returned (.int .i64 (Lib.compareInt x.cost y.cost)) ∧ Below w.heap.size w w' := by
  have HA := Lib.hid (fun c1 c2 => ((Below.refl w.heap.size w).alloc (Nat.le_refl _) (.cells c1 79)).alloc (by simp) (.cells c2 79))
  unfold En.v
  go_enter Try.func65, Try.ntmps65
  go_wp2_with fail
  refine (Try.cmp_Compare_int _ _ _).mono ?_
  rintro e wq ⟨rfl, hw⟩
  have hw := hw.symm
  subst hw
  go_wp2_with fail
  go_ret
  exact ⟨rfl, HA.out _ _⟩
set_option maxHeartbeats 4000000 in
theorem ord7_any (x y : En) (w : World) : Calls Try.prog 66 #[x.v, y.v] w fun e w' => e = .returned (.int .i64 (Lib.compareInt (identF x.p) (identF y.p))) ∧ Below w.heap.size w w' := by
  have HS : Hid (CellsAt (((w.alloc (.cells x.cs 79)).alloc (.cells y.cs 79)).drew) w.heap.size x.cs 79 ∧ CellsAt (((w.alloc (.cells x.cs 79)).alloc (.cells y.cs 79)).drew) (w.heap.size + 1) y.cs 79 ∧ Below w.heap.size w (((w.alloc (.cells x.cs 79)).alloc (.cells y.cs 79)).drew)) := by
    have h1 : CellsAt (w.alloc (.cells x.cs 79)) w.heap.size x.cs 79 := CellsAt.new _ _ _
    have h2 : CellsAt ((w.alloc (.cells x.cs 79)).alloc (.cells y.cs 79)) (w.alloc (.cells x.cs 79)).heap.size y.cs 79 := CellsAt.new _ _ _
    have h3 : (w.alloc (.cells x.cs 79)).heap.size = w.heap.size + 1 := by simp
    rw [h3] at h2
    exact ⟨(h1.alloc _).drew 1, h2.drew 1, below_drewN (((Below.refl w.heap.size w).alloc (Nat.le_refl _) _).alloc (by simp) _) 1⟩
  rw [En.v_cs, En.v_cs]
  go_enter Try.func66, Try.ntmps66
  go_wp2_with fail
  refine wp_region_held_drew (S := fun w' => CellsAt w' w.heap.size x.cs 79 ∧ CellsAt w' (w.heap.size + 1) y.cs 79 ∧ Below w.heap.size w w') (by kernel_rfl) (HS.out) (fun hHeld => ?_)
  refine wpAnyH_take (i := 0) (oi := { dst := some 5, op := Op.load 79 (Operand.tmp 2), type := 79, pos := "decide.go:127", after := #[], guard := none }) (v := x.v) rfl (by kernel_rfl) (by kernel_rfl) (by kernel_rfl) (fun _ _ _ h => h) (yields_entry (by rfl) _ rfl w.heap.size (by rfl) x (fun w h => h.1)) hHeld ?_
  try simp only [Act.put, List.setIfInBounds_toArray, List.set_cons_zero, List.set_cons_succ]
  refine wpAnyH_take (i := 2) (oi := { dst := some 7, op := Op.load 79 (Operand.tmp 3), type := 79, pos := "decide.go:127", after := #[], guard := none }) (v := y.v) rfl (by kernel_rfl) (by kernel_rfl) (by kernel_rfl) (fun _ _ _ h => h) (yields_entry (by rfl) _ rfl (w.heap.size + 1) (by rfl) y (fun w h => h.2.1)) hHeld ?_
  try simp only [Act.put, List.setIfInBounds_toArray, List.set_cons_zero, List.set_cons_succ]
  refine wpAnyH_ready (rs := [1]) (by kernel_rfl) (by simp) ?_
  refine AllReadyH.cons (o := { dst := some 6, op := Op.call { callee := Callee.value (Operand.func 67), args := #[Operand.tmp 5], argTypes := #[79] }, type := 28, pos := "decide.go:127", after := #[{ on := 0, ground := Ground.data }], guard := none }) rfl (fun K hK => ?_) AllReadyH.nil
  go_simp
  refine (ident_any x _).mono ?_
  rintro e w9 ⟨rfl, hb⟩
  go_wp2_with fail
  refine hK.out _ _ (And.intro (hHeld.1.below hb hHeld.1.lt) (And.intro (hHeld.2.1.below hb hHeld.2.1.lt) (hHeld.2.2.trans (hb.mono hHeld.2.2.size)))) (fun hHeld => ?_)
  clear hK K
  try simp only [Act.put, List.setIfInBounds_toArray, List.set_cons_zero, List.set_cons_succ]
  refine wpAnyH_ready (rs := [3]) (by kernel_rfl) (by simp) ?_
  refine AllReadyH.cons (o := { dst := some 8, op := Op.call { callee := Callee.value (Operand.func 67), args := #[Operand.tmp 7], argTypes := #[79] }, type := 28, pos := "decide.go:127", after := #[{ on := 2, ground := Ground.data }, { on := 1, ground := Ground.chain }], guard := none }) rfl (fun K hK => ?_) AllReadyH.nil
  go_simp
  refine (ident_any y _).mono ?_
  rintro e w9 ⟨rfl, hb⟩
  go_wp2_with fail
  refine hK.out _ _ (And.intro (hHeld.1.below hb hHeld.1.lt) (And.intro (hHeld.2.1.below hb hHeld.2.1.lt) (hHeld.2.2.trans (hb.mono hHeld.2.2.size)))) (fun hHeld => ?_)
  clear hK K
  try simp only [Act.put, List.setIfInBounds_toArray, List.set_cons_zero, List.set_cons_succ]
  refine wpAnyH_ready (rs := [4]) (by kernel_rfl) (by simp) ?_
  refine AllReadyH.cons (o := { dst := some 9, op := Op.call { callee := Callee.value (Operand.func 56), args := #[Operand.tmp 6, Operand.tmp 8], argTypes := #[28, 28] }, type := 3, pos := "decide.go:127", after := #[{ on := 1, ground := Ground.data }, { on := 3, ground := Ground.data }, { on := 3, ground := Ground.chain }], guard := none }) rfl (fun K hK => ?_) AllReadyH.nil
  go_simp
  refine (cmp32_any _ _ _).mono ?_
  rintro e w9 ⟨rfl, hw9⟩
  rw [hw9]
  clear hw9
  go_wp2_with fail
  refine hK.out _ _ (hHeld) (fun hHeld => ?_)
  clear hK K
  try simp only [Act.put, List.setIfInBounds_toArray, List.set_cons_zero, List.set_cons_succ]
  refine wpAnyH_take (i := 5) (oi := { dst := some 4, op := Op.assign (Operand.tmp 9), type := 3, pos := "decide.go:127", after := #[{ on := 4, ground := Ground.data }, { on := 4, ground := Ground.chain }, { on := 0, ground := Ground.phase }, { on := 1, ground := Ground.phase }, { on := 2, ground := Ground.phase }, { on := 3, ground := Ground.phase }, { on := 4, ground := Ground.phase }], guard := none }) (v := ?_) rfl (by kernel_rfl) (by kernel_rfl) (by kernel_rfl) (fun _ _ _ h => h) (Or.inl ⟨by rfl, ?_⟩) hHeld ?_
  rotate_left
  · intro w hSw
    clear hSw
    go_simp
    try with_reducible rfl
  try simp only [Act.put, List.setIfInBounds_toArray, List.set_cons_zero, List.set_cons_succ]
  refine wpAnyH_done (by kernel_rfl) ?_ _
  have HB := hHeld.2.2
  clear hHeld
  go_wp2_with fail
  go_ret
  exact ⟨rfl, HB⟩
theorem ord8_any (x y : En) (w : World) (hx : PtOk w x.p) (hy : PtOk w y.p) : Calls Try.prog 68 #[x.v, y.v] w fun e w' => e = .returned (.int .i64 (Lib.compareInt x.p.clus.length y.p.clus.length)) ∧ Below w.heap.size w w' := by
  have x1 := hx.clen
  have x2 : x.p.cC ≤ 9223372036854775807 := hx.ccap
  have y1 := hy.clen
  have y2 : y.p.cC ≤ 9223372036854775807 := hy.ccap
  clear hx hy
  have HA := Lib.hid (fun c1 c2 => ((Below.refl w.heap.size w).alloc (Nat.le_refl _) (.cells c1 79)).alloc (by simp) (.cells c2 79))
  unfold En.v
  go_enter Try.func68, Try.ntmps68
  go_wp2_with fail
  refine (Try.cmp_Compare_int _ _ _).mono ?_
  rintro e wq ⟨rfl, hw⟩
  have hw := hw.symm
  subst hw
  go_wp2_with fail
  go_ret
  exact ⟨rfl, HA.out _ _⟩
theorem ord10_any (x y : En) (w : World) : Calls Try.prog 72 #[x.v, y.v] w fun e w' => e = .returned (.int .i64 (Lib.compareBytes x.p.peer.data.toList y.p.peer.data.toList)) ∧ Below w.heap.size w w' := by
  have HA := Lib.hid (fun c1 c2 => ((Below.refl w.heap.size w).alloc (Nat.le_refl _) (.cells c1 79)).alloc (by simp) (.cells c2 79))
  unfold En.v
  go_enter Try.func72, Try.ntmps72
  go_wp2_with fail
  refine (Try.strings_Compare _ _ _).mono ?_
  rintro e wq ⟨rfl, hw⟩
  have hw := hw.symm
  subst hw
  go_wp2_with fail
  go_ret
  exact ⟨rfl, HA.out _ _⟩
theorem ord11_any (x y : En) (w : World) : Calls Try.prog 73 #[x.v, y.v] w fun e w' => e = .returned (.int .i64 (Lib.compareInt x.p.id y.p.id)) ∧ Below w.heap.size w w' := by
  have HA := Lib.hid (fun c1 c2 => ((Below.refl w.heap.size w).alloc (Nat.le_refl _) (.cells c1 79)).alloc (by simp) (.cells c2 79))
  unfold En.v
  go_enter Try.func73, Try.ntmps73
  go_wp2_with fail
  refine (cmp32_any _ _ _).mono ?_
  rintro e wq ⟨rfl, hw⟩
  have hw := hw.symm
  subst hw
  go_wp2_with fail
  go_ret
  exact ⟨rfl, HA.out _ _⟩
end Go.Proofs.Ytoamigfjpcniaaa
