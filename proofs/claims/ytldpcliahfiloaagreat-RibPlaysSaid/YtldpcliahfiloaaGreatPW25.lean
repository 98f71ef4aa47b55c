/-
  Several texts in one.
-/
import Derived.Test.YtldpcliahfiloaaGreatPW23
import Derived.Test.YtldpcliahfiloaaGreatPW24
set_option linter.unusedVariables false
set_option linter.unusedSimpArgs false
namespace Go.Proofs.YtldpcliahfiloaaGreat
open Go.RowKit Go.MapKept Go.Shelf
open Go.Lib hiding intOf
open Go.Sort hiding Below
open Go.Maps (Keyed)

theorem rb_name {P : Program} {c : Code} {Q : Exit → Act → World → Prop} {a : Act} {w : World} (h : ∀ W, W = w → Code.wp P c Q a W) : Code.wp P c Q a w := h w rfl
theorem told_under : ∃ fs, Tryz.prog.underlying 86 = some (.struct fs) := ⟨_, Tryz.underlying86⟩
theorem told_size : (Tryz.prog.info? 86).map (·.size) = some 18 := by kernel_rfl
theorem path_under : ∃ fs, Tryz.prog.underlying 64 = some (.struct fs) := ⟨_, Tryz.underlying64⟩
theorem path_size : (Tryz.prog.info? 64).map (·.size) = some 29 := by kernel_rfl
theorem told_ones (t : Td) : t.ar.all Value.oneCell' = true := Array.all_eq_true_iff_forall_mem.2 (fun u hu => by
  simp only [Td.ar, List.mem_toArray, List.mem_cons, List.not_mem_nil, or_false] at hu
  rcases hu with rfl | rfl | rfl | rfl | rfl | rfl | rfl | rfl | rfl | rfl | rfl | rfl | rfl | rfl | rfl | rfl | rfl | rfl <;> rfl)
theorem path_ones (k : Pk) (label : Nat) (a : Atr) (stale : Bool) : (pathAr k label a stale).all Value.oneCell' = true := Array.all_eq_true_iff_forall_mem.2 (fun u hu => by
  simp only [pathAr, List.mem_toArray, List.mem_cons, List.not_mem_nil, or_false] at hu
  rcases hu with rfl | rfl | rfl | rfl | rfl | rfl | rfl | rfl | rfl | rfl | rfl | rfl | rfl | rfl | rfl | rfl | rfl | rfl | rfl | rfl | rfl | rfl | rfl | rfl | rfl | rfl | rfl | rfl | rfl <;> rfl)
theorem td_mid {w : World} {b : Nat} {T : TypeId} {t : Td} (h : CellsAt w b t.ar T) : w.rangeAt b 1 t.a.ar.toList := fun j v hv => by
  rw [h.c]
  have e : t.ar.toList = Value.int .u32 (t.label : Nat) :: (t.a.cs ++ [.bool t.stale]) := rfl
  have hv2 : t.a.cs[j]? = some v := hv
  rw [← Array.getElem?_toList, e, Nat.add_comm, List.getElem?_cons_succ, List.getElem?_append_left (List.getElem?_eq_some_iff.1 hv2).1]
  exact hv2
theorem yields_attrs1 {ops : Array Oper} {S : World → Prop} {o : Oper} {a : Act} (hw : Region.wanted o (yielded ops a.tmps) = true) (src : Operand) (ho : o.op = .load 41 src)
    (b : Nat) (hx : a.eval src = .pointer (some ⟨b, 1, none⟩)) (p : Atr) (hS : ∀ w, S w → w.rangeAt b 1 p.ar.toList) : YieldsIf Tryz.prog ops S o (.agg p.ar) a := by
  obtain ⟨fs, hu⟩ := attrs_under
  exact yieldsIf_load_mid hw 41 src ho b 1 hx p.ar.toList _ hS hu rfl (by rw [attrs_size]; rfl)
theorem rb_results1 {fn : Func} {p : Tmp} {t : TypeId} (h : fn.results = #[.cell p t]) (tmps : Array Value) (P : Program) (w : World) :
    (results fn tmps).run P w = ((asAddr (tmps.getD p undef)).run P w).andThen fun a w₁ => (loadVar t a).run P w₁ := by
  simp only [results, h]
  simp [Sem.run_bind, Result.andThen]
theorem results_path {fn : Func} {p : Tmp} (h : fn.results = #[.cell p 64]) (tmps : Array Value) (w : World) (g : Nat) (cs : Array Value) (hs : cs.size = 29) (hp : tmps.getD p undef = .pointer (some ⟨g, 0, none⟩)) (hg : CellsAt w g cs 64) :
    (results fn tmps).run Tryz.prog w = .ok (.agg cs) w := by
  obtain ⟨fs, hu⟩ := path_under
  rw [rb_results1 h, hp]
  simp only [asAddr, Sem.run_pure, Result.andThen_ok]
  rw [run_loadVar_mid w g 0 _ cs.toList _ hg.range hu rfl (by rw [path_size]; simp [hs])]
set_option maxRecDepth 100000 in
set_option maxHeartbeats 8000000 in
theorem apath_any (k : Pk) (t : Td) (w : World) (ha : AtrOk w t.a) (hz : AtrSz t.a.c) : Calls Tryz.prog 30 #[.agg #[.int .i64 k.fam, .int .u64 k.rd, .string k.addr, .int .i64 k.len, .int .u32 (k.id : Nat)], .agg t.ar] w fun e w' => (∃ a : Atr, e = .returned (.agg (pathAr k t.label a t.stale)) ∧ AtO w' w.heap.size a ∧ a.c = t.a.c) ∧ Below w.heap.size w w' := by
  have HC : Hid (∀ W, Below w.heap.size w W → Calls Tryz.prog 37 #[.agg t.a.ar] W fun e w' => (∃ a' : Atr, e = .returned (.agg a'.ar) ∧ AtO w' W.heap.size a' ∧ a'.c = t.a.c) ∧ Below W.heap.size W w') := fun W hb => copy_any t.a W (ha.below hb (Nat.le_refl _)) hz
  clear ha hz
  go_enter Tryz.func30, Tryz.ntmps30
  go_upto_region 1 with fail
  refine rb_name fun V hV => ?_
  obtain ⟨s, hs⟩ : ∃ s, s = w.heap.size := ⟨_, rfl⟩
  have HI : Hid ((fun w' => CellsAt w' s #[.int .i64 k.fam, .int .u64 k.rd, .string k.addr, .int .i64 k.len, .int .u32 (k.id : Nat)] 83 ∧ CellsAt w' (s + 1) t.ar 86 ∧ (∃ cs, CellsAt w' (s + 1 + 1) cs 64 ∧ cs.size = 29) ∧ Below w.heap.size w w') V.drew) := by
    have h1 : CellsAt V s #[.int .i64 k.fam, .int .u64 k.rd, .string k.addr, .int .i64 k.len, .int .u32 (k.id : Nat)] 83 := by rw [hV, hs]; exact ((CellsAt.new _ _ _).alloc _).alloc _
    have h2 : CellsAt V (s + 1) t.ar 86 := by
      have h := CellsAt.new (w.alloc (.cells #[.int .i64 k.fam, .int .u64 k.rd, .string k.addr, .int .i64 k.len, .int .u32 (k.id : Nat)] 83)) t.ar 86
      rw [World.size_alloc] at h
      rw [hV, hs]
      exact h.alloc _
    have h3 : CellsAt V (s + 1 + 1) (pathAr noPk 0 noAtr false) 64 := by
      have h := CellsAt.new ((w.alloc (.cells #[.int .i64 k.fam, .int .u64 k.rd, .string k.addr, .int .i64 k.len, .int .u32 (k.id : Nat)] 83)).alloc (.cells t.ar 86)) (pathAr noPk 0 noAtr false) 64
      rw [World.size_alloc, World.size_alloc] at h
      rw [hV, hs]
      exact h
    have h4 : Below w.heap.size w V := by rw [hV]; exact (((Below.refl _ _).alloc (Nat.le_refl _) _).alloc (by simp) _).alloc (by simp; omega) _
    exact ⟨h1.drew 1, h2.drew 1, ⟨_, h3.drew 1, rfl⟩, below_drewN h4 1⟩
  have HBV : Hid (s + 1 + 1 < V.heap.size) := by
    show _ < _
    rw [hV, hs]
    simp
  have HS : Hid (s = w.heap.size) := hs
  rw [← hs]
  clear hV hs
  refine wp_region_held_drew (S := fun w' => CellsAt w' s #[.int .i64 k.fam, .int .u64 k.rd, .string k.addr, .int .i64 k.len, .int .u32 (k.id : Nat)] 83 ∧ CellsAt w' (s + 1) t.ar 86 ∧ (∃ cs, CellsAt w' (s + 1 + 1) cs 64 ∧ cs.size = 29) ∧ Below w.heap.size w w') (by kernel_rfl) (HI.out) (fun hHeld => ?_)
  refine wpAnyH_take (i := 0) (oi := { dst := some 5, op := Op.fieldAddr 83 (Operand.tmp 2) 0, type := 0, pos := "adjin.go:60", after := #[], guard := none }) (v := ?_) rfl (by kernel_rfl) (by kernel_rfl) (by kernel_rfl) (fun _ _ _ h => h) (Or.inl ⟨by rfl, ?_⟩) hHeld ?_
  rotate_left
  · intro w hSw
    clear hSw
    go_simp
    try with_reducible rfl
  try simp only [Act.put, List.setIfInBounds_toArray, List.set_cons_zero, List.set_cons_succ]
  refine wpAnyH_take (i := 1) (oi := { dst := some 6, op := Op.load 32 (Operand.tmp 5), type := 32, pos := "adjin.go:60", after := #[{ on := 0, ground := Ground.data }], guard := none }) (v := ?_) rfl (by kernel_rfl) (by kernel_rfl) (by kernel_rfl) (fun _ _ _ h => h) (Or.inl ⟨by rfl, ?_⟩) hHeld ?_
  rotate_left
  · intro w hSw
    obtain ⟨q1, q2, q3, q4⟩ := hSw
    obtain ⟨x0, x1, x2, x3, x4⟩ := q1.c5
    have y0 : w.cell? ⟨s + 1, 0, none⟩ = some (.int .u32 (t.label : Nat)) := (q2.c 0).trans rfl
    have y17 : w.cell? ⟨s + 1, 17, none⟩ = some (.bool t.stale) := (q2.c 17).trans rfl
    go_simp
    try with_reducible rfl
  try simp only [Act.put, List.setIfInBounds_toArray, List.set_cons_zero, List.set_cons_succ]
  refine wpAnyH_take (i := 2) (oi := { dst := some 7, op := Op.fieldAddr 83 (Operand.tmp 2) 1, type := 0, pos := "adjin.go:60", after := #[], guard := none }) (v := ?_) rfl (by kernel_rfl) (by kernel_rfl) (by kernel_rfl) (fun _ _ _ h => h) (Or.inl ⟨by rfl, ?_⟩) hHeld ?_
  rotate_left
  · intro w hSw
    clear hSw
    go_simp
    try with_reducible rfl
  try simp only [Act.put, List.setIfInBounds_toArray, List.set_cons_zero, List.set_cons_succ]
  refine wpAnyH_take (i := 3) (oi := { dst := some 8, op := Op.load 33 (Operand.tmp 7), type := 33, pos := "adjin.go:60", after := #[{ on := 2, ground := Ground.data }], guard := none }) (v := ?_) rfl (by kernel_rfl) (by kernel_rfl) (by kernel_rfl) (fun _ _ _ h => h) (Or.inl ⟨by rfl, ?_⟩) hHeld ?_
  rotate_left
  · intro w hSw
    obtain ⟨q1, q2, q3, q4⟩ := hSw
    obtain ⟨x0, x1, x2, x3, x4⟩ := q1.c5
    have y0 : w.cell? ⟨s + 1, 0, none⟩ = some (.int .u32 (t.label : Nat)) := (q2.c 0).trans rfl
    have y17 : w.cell? ⟨s + 1, 17, none⟩ = some (.bool t.stale) := (q2.c 17).trans rfl
    go_simp
    try with_reducible rfl
  try simp only [Act.put, List.setIfInBounds_toArray, List.set_cons_zero, List.set_cons_succ]
  refine wpAnyH_take (i := 4) (oi := { dst := some 9, op := Op.fieldAddr 86 (Operand.tmp 3) 0, type := 0, pos := "adjin.go:60", after := #[], guard := none }) (v := ?_) rfl (by kernel_rfl) (by kernel_rfl) (by kernel_rfl) (fun _ _ _ h => h) (Or.inl ⟨by rfl, ?_⟩) hHeld ?_
  rotate_left
  · intro w hSw
    clear hSw
    go_simp
    try with_reducible rfl
  try simp only [Act.put, List.setIfInBounds_toArray, List.set_cons_zero, List.set_cons_succ]
  refine wpAnyH_take (i := 5) (oi := { dst := some 10, op := Op.load 33 (Operand.tmp 9), type := 33, pos := "adjin.go:60", after := #[{ on := 4, ground := Ground.data }], guard := none }) (v := ?_) rfl (by kernel_rfl) (by kernel_rfl) (by kernel_rfl) (fun _ _ _ h => h) (Or.inl ⟨by rfl, ?_⟩) hHeld ?_
  rotate_left
  · intro w hSw
    obtain ⟨q1, q2, q3, q4⟩ := hSw
    obtain ⟨x0, x1, x2, x3, x4⟩ := q1.c5
    have y0 : w.cell? ⟨s + 1, 0, none⟩ = some (.int .u32 (t.label : Nat)) := (q2.c 0).trans rfl
    have y17 : w.cell? ⟨s + 1, 17, none⟩ = some (.bool t.stale) := (q2.c 17).trans rfl
    go_simp
    try with_reducible rfl
  try simp only [Act.put, List.setIfInBounds_toArray, List.set_cons_zero, List.set_cons_succ]
  refine wpAnyH_take (i := 6) (oi := { dst := some 11, op := Op.fieldAddr 86 (Operand.tmp 3) 1, type := 0, pos := "adjin.go:60", after := #[], guard := none }) (v := ?_) rfl (by kernel_rfl) (by kernel_rfl) (by kernel_rfl) (fun _ _ _ h => h) (Or.inl ⟨by rfl, ?_⟩) hHeld ?_
  rotate_left
  · intro w hSw
    clear hSw
    go_simp
    try with_reducible rfl
  try simp only [Act.put, List.setIfInBounds_toArray, List.set_cons_zero, List.set_cons_succ]
  refine wpAnyH_take (i := 9) (oi := { dst := some 14, op := Op.fieldAddr 86 (Operand.tmp 3) 2, type := 0, pos := "adjin.go:60", after := #[], guard := none }) (v := ?_) rfl (by kernel_rfl) (by kernel_rfl) (by kernel_rfl) (fun _ _ _ h => h) (Or.inl ⟨by rfl, ?_⟩) hHeld ?_
  rotate_left
  · intro w hSw
    clear hSw
    go_simp
    try with_reducible rfl
  try simp only [Act.put, List.setIfInBounds_toArray, List.set_cons_zero, List.set_cons_succ]
  refine wpAnyH_take (i := 10) (oi := { dst := some 15, op := Op.load 4 (Operand.tmp 14), type := 4, pos := "adjin.go:60", after := #[{ on := 9, ground := Ground.data }], guard := none }) (v := ?_) rfl (by kernel_rfl) (by kernel_rfl) (by kernel_rfl) (fun _ _ _ h => h) (Or.inl ⟨by rfl, ?_⟩) hHeld ?_
  rotate_left
  · intro w hSw
    obtain ⟨q1, q2, q3, q4⟩ := hSw
    obtain ⟨x0, x1, x2, x3, x4⟩ := q1.c5
    have y0 : w.cell? ⟨s + 1, 0, none⟩ = some (.int .u32 (t.label : Nat)) := (q2.c 0).trans rfl
    have y17 : w.cell? ⟨s + 1, 17, none⟩ = some (.bool t.stale) := (q2.c 17).trans rfl
    go_simp
    try with_reducible rfl
  try simp only [Act.put, List.setIfInBounds_toArray, List.set_cons_zero, List.set_cons_succ]
  refine wpAnyH_take (i := 7) (oi := { dst := some 12, op := Op.load 41 (Operand.tmp 11), type := 41, pos := "adjin.go:60", after := #[{ on := 6, ground := Ground.data }], guard := none }) (v := Value.agg t.a.ar) rfl (by kernel_rfl) (by kernel_rfl) (by kernel_rfl) (fun _ _ _ h => h) (yields_attrs1 (by rfl) _ rfl (s + 1) (by rfl) t.a (fun w h => td_mid h.2.1)) hHeld ?_
  try simp only [Act.put, List.setIfInBounds_toArray, List.set_cons_zero, List.set_cons_succ]
  refine wpAnyH_ready (rs := [8]) (by kernel_rfl) (by simp) ?_
  refine AllReadyH.cons (o := { dst := some 13, op := Op.call { callee := Callee.value (Operand.func 37), args := #[Operand.tmp 12], argTypes := #[41] }, type := 41, pos := "adjin.go:60", after := #[{ on := 7, ground := Ground.data }], guard := none }) rfl (fun K hK => ?_) AllReadyH.nil
  go_simp
  refine (HC.out _ (hHeld.2.2.2)).mono ?_
  rintro e w9 ⟨⟨a2, rfl, ho2, hc2⟩, hw9⟩
  unfold Atr.ar
  refine hK.out _ _ (And.intro (hHeld.1.below hw9 hHeld.1.lt) (And.intro (hHeld.2.1.below hw9 hHeld.2.1.lt) (And.intro (hHeld.2.2.1.imp (fun cs h => ⟨h.1.below hw9 h.1.lt, h.2⟩)) (hHeld.2.2.2.trans (hw9.mono hHeld.2.2.2.size))))) (fun hHeld => ?_)
  clear hK K
  try simp only [Act.put, List.setIfInBounds_toArray, List.set_cons_zero, List.set_cons_succ]
  refine wpAnyH_take (i := 11) (oi := { dst := some 16, op := Op.build 64 #[(0, Operand.tmp 6), (1, Operand.tmp 8), (2, Operand.tmp 10), (3, Operand.tmp 13), (5, Operand.tmp 15)], type := 64, pos := "adjin.go:60", after := #[{ on := 1, ground := Ground.data }, { on := 3, ground := Ground.data }, { on := 5, ground := Ground.data }, { on := 8, ground := Ground.data }, { on := 10, ground := Ground.data }], guard := none }) (v := ?_) rfl (by kernel_rfl) (by kernel_rfl) (by kernel_rfl) (fun _ _ _ h => h) (Or.inl ⟨by rfl, ?_⟩) hHeld ?_
  rotate_left
  · intro w hSw
    clear hSw
    go_simp
    try with_reducible rfl
  try simp only [Act.put, List.setIfInBounds_toArray, List.set_cons_zero, List.set_cons_succ]
  have HL := Lib.hid hHeld
  have HO2 := Lib.hid ho2
  refine wpAnyH_ready (rs := [12]) (by kernel_rfl) (by simp) ?_
  refine AllReadyH.cons (o := { dst := none, op := Op.store 64 (Operand.tmp 4) (Operand.tmp 16), type := 0, pos := "adjin.go:60", after := #[{ on := 11, ground := Ground.data }, { on := 8, ground := Ground.chain }, { on := 0, ground := Ground.phase }, { on := 1, ground := Ground.phase }, { on := 2, ground := Ground.phase }, { on := 3, ground := Ground.phase }, { on := 4, ground := Ground.phase }, { on := 5, ground := Ground.phase }, { on := 6, ground := Ground.phase }, { on := 7, ground := Ground.phase }, { on := 8, ground := Ground.phase }, { on := 9, ground := Ground.phase }, { on := 10, ground := Ground.phase }, { on := 11, ground := Ground.phase }], guard := none }) rfl (fun K hK => ?_) AllReadyH.nil
  obtain ⟨cs3, hc3, hn3⟩ := HL.out.2.2.1
  refine wp_store_row 64 (.tmp 4) (.tmp 16) rfl (s + 1 + 1) (pathAr k t.label a2 t.stale) rfl rfl 64 _ hc3 (by rw [path_size]; rfl) (by rw [hn3]; rfl) (path_ones _ _ _ _) ?_
  refine hK.out _ _ (⟨(setRow_other _ _ _ _ (by omega)).trans HL.out.1, (setRow_other _ _ _ _ (by omega)).trans HL.out.2.1, ⟨_, hc3.setRow' _, rfl⟩, HL.out.2.2.2.grown (grown_setRow' _ _ _) HL.out.2.2.2.size (fun q hq => by cases hq; have := HS.out; omega)⟩) (fun hHeld2 => ?_)
  clear hK K hHeld2
  try simp only [Act.put, List.setIfInBounds_toArray, List.set_cons_zero, List.set_cons_succ]
  refine wpAnyH_done (by kernel_rfl) ?_ _
  obtain ⟨q1, q2, q3, q4⟩ := HL.out
  have HF : Hid (CellsAt (w9.setRow (s + 1 + 1) (pathAr k t.label a2 t.stale)) (s + 1 + 1) (pathAr k t.label a2 t.stale) 64) := hc3.setRow' _
  have HB : Hid (Below w.heap.size w (w9.setRow (s + 1 + 1) (pathAr k t.label a2 t.stale))) := q4.grown (grown_setRow' _ _ _) q4.size (fun q hq => by cases hq; have := HS.out; omega)
  have HO : Hid (AtO (w9.setRow (s + 1 + 1) (pathAr k t.label a2 t.stale)) w.heap.size a2) := AtO.lower' (AtO.keep HO2.out (fun i h1 h2 => (grown_setRow' w9 (s + 1 + 1) (pathAr k t.label a2 t.stale)).block i h2 (fun e => by injection e with e; have h3 : V.heap.size ≤ i := h1; have := HBV.out; omega))) (by show w.heap.size ≤ V.heap.size; have := HS.out; have := HBV.out; omega)
  clear hHeld q1 q2 q3 q4
  go_wp2_with fail
  exact bodyPost_ret (results_path rfl _ _ (s + 1 + 1) _ rfl rfl HF.out) rfl ⟨⟨a2, rfl, HO.out, hc2⟩, HB.out⟩
end Go.Proofs.YtldpcliahfiloaaGreat
