/-
  Several texts in one.
-/
import Derived.Test.YtldpcliahfiloaaGreatPW25
set_option linter.unusedVariables false
set_option linter.unusedSimpArgs false
namespace Go.Proofs.YtldpcliahfiloaaGreat
open Go.RowKit Go.MapKept Go.Shelf
open Go.Lib hiding intOf
open Go.Sort hiding Below
open Go.Maps (Keyed)

theorem wpList_load_told {ops : Array Oper} {rest : List Oper} {op : Oper} {a : Act} {w : World} {Q : Exit → Act → World → Prop} (hgd : op.guard = none) (src : Operand) (ho : op.op = .load 86 src) (b : Nat) (hx : a.eval src = .pointer (some ⟨b, 0, none⟩)) (p : Td) (hc : CellsAt w b p.ar 86)
    (h : wpList Tryz.prog ops Q rest (a.put op.dst (.agg p.ar)) w) : wpList Tryz.prog ops Q (op :: rest) a w := by
  obtain ⟨fs, hu⟩ := told_under
  exact wpList_load_mid hgd 86 src ho b 0 hx p.ar.toList _ hc.range hu rfl (by rw [told_size]; rfl) h
theorem wpList_store_path {ops : Array Oper} {rest : List Oper} {op : Oper} {a : Act} {w : World} {Q : Exit → Act → World → Prop} (hgd : op.guard = none) (x y : Operand) (ho : op.op = .store 64 x y) (b : Nat) (hx : a.eval x = .pointer (some ⟨b, 0, none⟩)) (k : Pk) (l : Nat) (p : Atr) (s : Bool) (hy : a.eval y = .agg (pathAr k l p s)) (cs : Array Value) (hc : CellsAt w b cs 64) (hn : cs.size = 29)
    (h : wpList Tryz.prog ops Q rest (a.put op.dst undef) (w.setRow b (pathAr k l p s))) : wpList Tryz.prog ops Q (op :: rest) a w :=
  wpList_store_row hgd 64 x y ho b (pathAr k l p s) hx hy 64 cs hc (by rw [path_size]; rfl) (by rw [hn]; rfl) (path_ones k l p s) h
theorem results_path2 {fn : Func} {p q : Tmp} (hf : fn.results = #[.cell p 64, .tmp q]) (tmps : Array Value) (w : World) (g : Nat) (cs : Array Value) (hs : cs.size = 29) (y : Value) (hp : tmps.getD p undef = .pointer (some ⟨g, 0, none⟩)) (hq : tmps.getD q undef = y) (hg : CellsAt w g cs 64) :
    (results fn tmps).run Tryz.prog w = .ok (.tuple #[.agg cs, y]) w := by
  obtain ⟨fs, hu⟩ := path_under
  rw [results_cell_tmp hf, hp]
  simp only [asAddr, Sem.run_pure, Result.andThen_ok]
  rw [run_loadVar_mid w g 0 _ cs.toList _ hg.range hu rfl (by rw [path_size]; simp [hs]), hq]
  rfl
theorem MapAt.rowB {P : Program} {K : TypeId} {w : World} {m g : Nat} {L : List (Value × Value)} (h : MapAt P K w m L) (cs : Array Value) (hg : m ≠ g) : MapAt P K (w.setRow g cs) m L := h.grownBy (grown_setRow' w g cs) (fun e => hg (by injection e))
set_option maxRecDepth 100000 in
set_option maxHeartbeats 8000000 in
theorem rget_some (w : World) (base b m : Nat) (most : Int) (S : List Td) (h : RibAt w base b m most S) (j : Nat) (p : Td) (hj : S[j]? = some p) :
    Calls Tryz.prog 18 #[.pointer (some ⟨b, 0, none⟩), .agg (#[.int .i64 p.k.fam, .int .u64 p.k.rd, .string p.k.addr, .int .i64 p.k.len]), .int .u32 (p.k.id : Nat)] w fun e w' => (∃ a : Atr, e = .returned (.tuple #[.agg (pathAr p.k p.label a p.stale), .bool true]) ∧ AtO w' w.heap.size a ∧ a.c = p.a.c) ∧ Below w.heap.size w w' := by
  obtain ⟨kl, hkl⟩ := pk_key p.k (h.ok p (List.mem_of_getElem? hj)).1
  have HKL := Lib.hid hkl
  have HJ := Lib.hid hj
  have lb := h.lt.1
  have lm := h.lt.2
  have HRIB := Lib.hid h
  have HNO := Lib.hid h.blk
  clear hkl hj h
  go_enter Tryz.func18, Tryz.ntmps18
  go_upto_region 1 with fail
  refine rb_name fun V0 hV0 => ?_
  obtain ⟨s, hs⟩ : ∃ s, s = w.heap.size := ⟨_, rfl⟩
  have HR0 : Hid (RibAt V0 base b m most S) := by rw [hV0]; exact (HRIB.out.alloc _).alloc _
  have HP0 : Hid (CellsAt V0 s (#[.int .i64 p.k.fam, .int .u64 p.k.rd, .string p.k.addr, .int .i64 p.k.len]) 32) := by rw [hV0, hs]; exact (CellsAt.new _ _ _).alloc _
  have HQ0 : Hid (CellsAt V0 (s + 1) (pathAr noPk 0 noAtr false) 64) := by
    have h := CellsAt.new (w.alloc (.cells (#[.int .i64 p.k.fam, .int .u64 p.k.rd, .string p.k.addr, .int .i64 p.k.len]) 32)) (pathAr noPk 0 noAtr false) 64
    rw [World.size_alloc] at h
    rw [hV0, hs]
    exact h
  have HB0 : Hid (Below w.heap.size w V0) := by rw [hV0]; exact ((Below.refl _ _).alloc (Nat.le_refl _) _).alloc (by simp) _
  have HZ0 : Hid (V0.heap.size = s + 1 + 1) := by show _ = _; rw [hV0, hs]; simp
  have HS : Hid (s = w.heap.size) := hs
  rw [← hs]
  clear hV0 hs HNO
  go_wp2_with fail
  refine (rnone_any b m most _ HR0.out.blk).mono ?_
  rintro e w2 ⟨rfl, hw2⟩
  subst w2
  obtain ⟨p0, p1, p2, p3⟩ := HP0.out.c4
  have HZ1 := HZ0.out
  go_upto_region 4 with fail
  refine rb_name fun V hV => ?_
  have HRV : Hid (RibAt V base b m most S) := by rw [hV]; exact HR0.out.alloc _
  have HQV : Hid (CellsAt V (s + 1) (pathAr noPk 0 noAtr false) 64) := by rw [hV]; exact HQ0.out.alloc _
  have HBV : Hid (Below w.heap.size w V) := by rw [hV]; exact HB0.out.alloc HB0.out.size _
  have HKV : Hid (CellsAt V (s + 1 + 1) #[.int .i64 p.k.fam, .int .u64 p.k.rd, .string p.k.addr, .int .i64 p.k.len, .int .u32 (p.k.id : Nat)] 83) := by
    have h := CellsAt.new V0 #[.int .i64 p.k.fam, .int .u64 p.k.rd, .string p.k.addr, .int .i64 p.k.len, .int .u32 (p.k.id : Nat)] 83
    rw [HZ1] at h
    rw [hV]
    exact h
  have hsV : s + 1 + 1 < V.heap.size := HKV.out.lt
  have hbV : b < V.heap.size := HRV.out.lt.1
  have hmV : m < V.heap.size := HRV.out.lt.2
  try rw [HZ1]
  clear hV p0 p1 p2 p3 HP0 HQ0 HR0 HB0 HZ0 HZ1
  have HI : Hid ((fun w' => CellsAt w' b #[.int .i64 most, .map (some m)] 53 ∧ MapAt Tryz.prog 83 w' m (tdL S) ∧ CellsAt w' (s + 1 + 1) #[.int .i64 p.k.fam, .int .u64 p.k.rd, .string p.k.addr, .int .i64 p.k.len, .int .u32 (p.k.id : Nat)] 83 ∧ Below V.heap.size V w') V.drew) := ⟨HRV.out.blk.drew 1, HRV.out.map.drew 1, HKV.out.drew 1, below_drewN (Below.refl _ _) 1⟩
  refine wp_region_held_drew (S := fun w' => CellsAt w' b #[.int .i64 most, .map (some m)] 53 ∧ MapAt Tryz.prog 83 w' m (tdL S) ∧ CellsAt w' (s + 1 + 1) #[.int .i64 p.k.fam, .int .u64 p.k.rd, .string p.k.addr, .int .i64 p.k.len, .int .u32 (p.k.id : Nat)] 83 ∧ Below V.heap.size V w') (by kernel_rfl) (HI.out) (fun hHeld => ?_)
  refine wpAnyH_take (i := 0) (oi := { dst := some 18, op := Op.move (Operand.tmp 0), type := 23, pos := "adjin.go:96", after := #[], guard := none }) (v := ?_) rfl (by kernel_rfl) (by kernel_rfl) (by kernel_rfl) (fun _ _ _ h => h) (Or.inl ⟨by rfl, ?_⟩) hHeld ?_
  rotate_left
  · intro w hSw
    clear hSw
    go_simp
    try with_reducible rfl
  try simp only [Act.put, List.setIfInBounds_toArray, List.set_cons_zero, List.set_cons_succ]
  refine wpAnyH_take (i := 1) (oi := { dst := some 19, op := Op.nilCheck (Operand.tmp 18), type := 0, pos := "adjin.go:96", after := #[{ on := 0, ground := Ground.data }], guard := none }) (v := ?_) rfl (by kernel_rfl) (by kernel_rfl) (by kernel_rfl) (fun _ _ _ h => h) (Or.inl ⟨by rfl, ?_⟩) hHeld ?_
  rotate_left
  · intro w hSw
    clear hSw
    go_simp
    try with_reducible rfl
  try simp only [Act.put, List.setIfInBounds_toArray, List.set_cons_zero, List.set_cons_succ]
  refine wpAnyH_take (i := 2) (oi := { dst := some 20, op := Op.fieldAddr 53 (Operand.tmp 19) 1, type := 0, pos := "adjin.go:96", after := #[{ on := 1, ground := Ground.data }], guard := none }) (v := ?_) rfl (by kernel_rfl) (by kernel_rfl) (by kernel_rfl) (fun _ _ _ h => h) (Or.inl ⟨by rfl, ?_⟩) hHeld ?_
  rotate_left
  · intro w hSw
    clear hSw
    go_simp
    try with_reducible rfl
  try simp only [Act.put, List.setIfInBounds_toArray, List.set_cons_zero, List.set_cons_succ]
  refine wpAnyH_take (i := 3) (oi := { dst := some 21, op := Op.load 51 (Operand.tmp 20), type := 51, pos := "adjin.go:96", after := #[{ on := 2, ground := Ground.data }], guard := none }) (v := ?_) rfl (by kernel_rfl) (by kernel_rfl) (by kernel_rfl) (fun _ _ _ h => h) (Or.inl ⟨by rfl, ?_⟩) hHeld ?_
  rotate_left
  · intro w hSw
    obtain ⟨q1, q2, q3, q4⟩ := hSw
    obtain ⟨c0, c1⟩ := q1.c2
    obtain ⟨k0, k1, k2, k3, k4⟩ := q3.c5
    go_simp
    try with_reducible rfl
  try simp only [Act.put, List.setIfInBounds_toArray, List.set_cons_zero, List.set_cons_succ]
  refine wpAnyH_take (i := 4) (oi := { dst := some 22, op := Op.load 83 (Operand.tmp 8), type := 83, pos := "adjin.go:96", after := #[], guard := none }) (v := ?_) rfl (by kernel_rfl) (by kernel_rfl) (by kernel_rfl) (fun _ _ _ h => h) (Or.inl ⟨by rfl, ?_⟩) hHeld ?_
  rotate_left
  · intro w hSw
    obtain ⟨q1, q2, q3, q4⟩ := hSw
    obtain ⟨c0, c1⟩ := q1.c2
    obtain ⟨k0, k1, k2, k3, k4⟩ := q3.c5
    go_simp
    try with_reducible rfl
  try simp only [Act.put, List.setIfInBounds_toArray, List.set_cons_zero, List.set_cons_succ]
  refine wpAnyH_take (i := 5) (oi := { dst := some 23, op := Op.lookup 51 (Operand.tmp 21) (Operand.tmp 22) true, type := 94, pos := "adjin.go:96", after := #[{ on := 3, ground := Ground.data }, { on := 4, ground := Ground.data }], guard := none }) (v := ?_) rfl (by kernel_rfl) (by kernel_rfl) (by kernel_rfl) (fun _ _ _ h => h) (Or.inl ⟨by rfl, ?_⟩) hHeld ?_
  rotate_left
  · intro w hSw
    obtain ⟨q1, q2, q3, q4⟩ := hSw
    have hlk := q2.lookup_some (t := 51) pkLaw Tryz.underlying51 (zero_td _) HKL.out (tdL_at HJ.out)
    unfold Pk.v at hlk
    go_simp
    try with_reducible rfl
  try simp only [Act.put, List.setIfInBounds_toArray, List.set_cons_zero, List.set_cons_succ]
  refine wpAnyH_take (i := 6) (oi := { dst := some 17, op := Op.move (Operand.tmp 23), type := 94, pos := "adjin.go:96", after := #[{ on := 5, ground := Ground.data }], guard := none }) (v := ?_) rfl (by kernel_rfl) (by kernel_rfl) (by kernel_rfl) (fun _ _ _ h => h) (Or.inl ⟨by rfl, ?_⟩) hHeld ?_
  rotate_left
  · intro w hSw
    clear hSw
    go_simp
    try with_reducible rfl
  try simp only [Act.put, List.setIfInBounds_toArray, List.set_cons_zero, List.set_cons_succ]
  refine wpAnyH_take (i := 7) (oi := { dst := some 24, op := Op.extract (Operand.tmp 17) 0, type := 86, pos := "adjin.go:96", after := #[{ on := 6, ground := Ground.data }], guard := none }) (v := ?_) rfl (by kernel_rfl) (by kernel_rfl) (by kernel_rfl) (fun _ _ _ h => h) (Or.inl ⟨by rfl, ?_⟩) hHeld ?_
  rotate_left
  · intro w hSw
    clear hSw
    go_simp
    try with_reducible rfl
  try simp only [Act.put, List.setIfInBounds_toArray, List.set_cons_zero, List.set_cons_succ]
  refine wpAnyH_take (i := 8) (oi := { dst := some 25, op := Op.extract (Operand.tmp 17) 1, type := 4, pos := "adjin.go:96", after := #[{ on := 6, ground := Ground.data }, { on := 10, ground := Ground.gcOnly Departure.lateStores }], guard := none }) (v := ?_) rfl (by kernel_rfl) (by kernel_rfl) (by kernel_rfl) (fun _ _ _ h => h) (Or.inl ⟨by rfl, ?_⟩) hHeld ?_
  rotate_left
  · intro w hSw
    clear hSw
    go_simp
    try with_reducible rfl
  try simp only [Act.put, List.setIfInBounds_toArray, List.set_cons_zero, List.set_cons_succ]
  refine wpAnyH_ready (rs := [9]) (by kernel_rfl) (by simp) ?_
  refine AllReadyH.cons (o := { dst := some 9, op := Op.alloc 86, type := 0, pos := "adjin.go:96", after := #[], guard := none }) rfl (fun K hK => ?_) AllReadyH.nil
  go_simp
  skip
  refine hK.out _ _ (And.intro (hHeld.1.alloc _) (And.intro (hHeld.2.1.alloc _) (And.intro (hHeld.2.2.1.alloc _) (hHeld.2.2.2.alloc hHeld.2.2.2.size _)))) (fun hHeld => ?_)
  clear hK K
  try simp only [Act.put, List.setIfInBounds_toArray, List.set_cons_zero, List.set_cons_succ]
  refine wpAnyH_ready (rs := [10]) (by kernel_rfl) (by simp) ?_
  refine AllReadyH.cons (o := { dst := none, op := Op.store 86 (Operand.tmp 9) (Operand.tmp 24), type := 0, pos := "adjin.go:96", after := #[{ on := 9, ground := Ground.data }, { on := 7, ground := Ground.data }, { on := 0, ground := Ground.phase }, { on := 1, ground := Ground.phase }, { on := 2, ground := Ground.phase }, { on := 3, ground := Ground.phase }, { on := 4, ground := Ground.phase }, { on := 5, ground := Ground.phase }, { on := 6, ground := Ground.phase }, { on := 7, ground := Ground.phase }, { on := 8, ground := Ground.textOnly Departure.lateStores }, { on := 9, ground := Ground.phase }], guard := none }) rfl (fun K hK => ?_) AllReadyH.nil
  refine wp_store_row 86 (.tmp 9) (.tmp 24) rfl V.heap.size p.ar rfl rfl 86 _ (CellsAt.new V.drew _ _) (by rw [told_size]; rfl) rfl (told_ones _) ?_
  refine hK.out _ _ (And.intro (hHeld.1.row (grown_setRow' _ _ _) (Nat.ne_of_lt hbV)) (And.intro (hHeld.2.1.rowB _ (Nat.ne_of_lt hmV)) (And.intro (hHeld.2.2.1.row (grown_setRow' _ _ _) (Nat.ne_of_lt hsV)) (hHeld.2.2.2.grown (grown_setRow' _ _ _) hHeld.2.2.2.size (fun q hq => by cases hq; exact Nat.le_refl _))))) (fun hHeld => ?_)
  clear hK K
  try simp only [Act.put, List.setIfInBounds_toArray, List.set_cons_zero, List.set_cons_succ]
  refine wpAnyH_take (i := 11) (oi := { dst := some 10, op := Op.assign (Operand.tmp 25), type := 4, pos := "adjin.go:96", after := #[{ on := 8, ground := Ground.data }, { on := 10, ground := Ground.chain }, { on := 0, ground := Ground.phase }, { on := 1, ground := Ground.phase }, { on := 2, ground := Ground.phase }, { on := 3, ground := Ground.phase }, { on := 4, ground := Ground.phase }, { on := 5, ground := Ground.phase }, { on := 6, ground := Ground.phase }, { on := 7, ground := Ground.phase }, { on := 8, ground := Ground.phase }, { on := 9, ground := Ground.phase }, { on := 10, ground := Ground.phase }], guard := none }) (v := ?_) rfl (by kernel_rfl) (by kernel_rfl) (by kernel_rfl) (fun _ _ _ h => h) (Or.inl ⟨by rfl, ?_⟩) hHeld ?_
  rotate_left
  · intro w hSw
    clear hSw
    go_simp
    try with_reducible rfl
  try simp only [Act.put, List.setIfInBounds_toArray, List.set_cons_zero, List.set_cons_succ]
  refine wpAnyH_done (by kernel_rfl) ?_ _
  have HH := Lib.hid hHeld
  have HTD : Hid (CellsAt ((V.drew.alloc (.cells (Td.mk noPk 0 noAtr false).ar 86)).setRow V.heap.size p.ar) V.heap.size p.ar 86) := CellsAt.setRow' (CellsAt.new V.drew _ _) _
  clear hHeld
  go_upto_region 5 with fail
  refine rb_name fun X hX => ?_
  have HRX : Hid (Below V.heap.size V X) := by rw [hX]; exact HH.out.2.2.2
  have HKX : Hid (CellsAt X (s + 1 + 1) #[.int .i64 p.k.fam, .int .u64 p.k.rd, .string p.k.addr, .int .i64 p.k.len, .int .u32 (p.k.id : Nat)] 83) := by rw [hX]; exact HH.out.2.2.1
  have HTX : Hid (CellsAt X V.heap.size p.ar 86) := by rw [hX]; exact HTD.out
  have HQX : Hid (CellsAt X (s + 1) (pathAr noPk 0 noAtr false) 64) := HQV.out.below HRX.out HQV.out.lt
  have HBX : Hid (Below w.heap.size w X) := HBV.out.trans (HRX.out.mono HBV.out.size)
  clear hX HH HTD
  have HOW : Hid (AtO X base p.a) := (HRV.out.below HRX.out).own p (List.mem_of_getElem? HJ.out)
  have HSZ : Hid (AtrSz p.a.c) := HRV.out.sz p (List.mem_of_getElem? HJ.out)
  obtain ⟨k0, k1, k2, k3, k4⟩ := HKX.out.c5
  go_wp2_with (with_reducible show wpList _ _ _ (_ :: _) _ _; refine wpList_load_told rfl (.tmp 9) rfl V.heap.size rfl p HTX.out ?_)
  refine (apath_any p.k p _ HOW.out.ok HSZ.out).mono ?_
  rintro e Y ⟨⟨a2, rfl, ho2, hc2⟩, hb⟩
  have HQY : Hid (CellsAt Y (s + 1) (pathAr noPk 0 noAtr false) 64) := HQX.out.below hb HQX.out.lt
  have HBY : Hid (Below w.heap.size w Y) := HBX.out.trans (hb.mono HBX.out.size)
  have HO2 := Lib.hid ho2
  have HXL : Hid (s + 1 < X.heap.size) := HQX.out.lt
  clear hb ho2 k0 k1 k2 k3 k4
  go_wp2_with (with_reducible show wpList _ _ _ (_ :: _) _ _; refine wpList_store_path rfl (.tmp 6) (.tmp 31) rfl (s + 1) rfl p.k p.label a2 p.stale rfl _ HQY.out rfl ?_)
  have HF : Hid (CellsAt (Y.setRow (s + 1) (pathAr p.k p.label a2 p.stale)) (s + 1) (pathAr p.k p.label a2 p.stale) 64) := HQY.out.setRow' _
  have HBF : Hid (Below w.heap.size w (Y.setRow (s + 1) (pathAr p.k p.label a2 p.stale))) := HBY.out.grown (grown_setRow' _ _ _) HBY.out.size (fun q hq => by cases hq; have := HS.out; omega)
  have HOF : Hid (AtO (Y.setRow (s + 1) (pathAr p.k p.label a2 p.stale)) w.heap.size a2) := AtO.lower' (AtO.keep HO2.out (fun i h1 h2 => (grown_setRow' Y (s + 1) (pathAr p.k p.label a2 p.stale)).block i h2 (fun e => by injection e with e; have := HXL.out; omega))) HBX.out.size
  exact bodyPost_ret (results_path2 rfl _ _ (s + 1) _ rfl (.bool true) rfl rfl HF.out) rfl ⟨⟨a2, rfl, HOF.out, hc2⟩, HBF.out⟩
set_option maxRecDepth 100000 in
set_option maxHeartbeats 8000000 in
theorem rget_none (w : World) (base b m : Nat) (most : Int) (S : List Td) (h : RibAt w base b m most S) (k : Pk) (hk : k.Ok) (hj : ∀ p ∈ S, p.k ≠ k) :
    Calls Tryz.prog 18 #[.pointer (some ⟨b, 0, none⟩), .agg (#[.int .i64 k.fam, .int .u64 k.rd, .string k.addr, .int .i64 k.len]), .int .u32 (k.id : Nat)] w fun e w' => e = .returned (.tuple #[.agg (pathAr noPk 0 noAtr false), .bool false]) ∧ Below w.heap.size w w' := by
  obtain ⟨kl, hkl⟩ := pk_key k hk
  have HKL := Lib.hid hkl
  have HJ := Lib.hid hj
  have lb := h.lt.1
  have lm := h.lt.2
  have HRIB := Lib.hid h
  have HNO := Lib.hid h.blk
  clear hkl hj h hk
  go_enter Tryz.func18, Tryz.ntmps18
  go_upto_region 1 with fail
  refine rb_name fun V0 hV0 => ?_
  obtain ⟨s, hs⟩ : ∃ s, s = w.heap.size := ⟨_, rfl⟩
  have HR0 : Hid (RibAt V0 base b m most S) := by rw [hV0]; exact (HRIB.out.alloc _).alloc _
  have HP0 : Hid (CellsAt V0 s (#[.int .i64 k.fam, .int .u64 k.rd, .string k.addr, .int .i64 k.len]) 32) := by rw [hV0, hs]; exact (CellsAt.new _ _ _).alloc _
  have HQ0 : Hid (CellsAt V0 (s + 1) (pathAr noPk 0 noAtr false) 64) := by
    have h := CellsAt.new (w.alloc (.cells (#[.int .i64 k.fam, .int .u64 k.rd, .string k.addr, .int .i64 k.len]) 32)) (pathAr noPk 0 noAtr false) 64
    rw [World.size_alloc] at h
    rw [hV0, hs]
    exact h
  have HB0 : Hid (Below w.heap.size w V0) := by rw [hV0]; exact ((Below.refl _ _).alloc (Nat.le_refl _) _).alloc (by simp) _
  have HZ0 : Hid (V0.heap.size = s + 1 + 1) := by show _ = _; rw [hV0, hs]; simp
  have HS : Hid (s = w.heap.size) := hs
  rw [← hs]
  clear hV0 hs HNO
  go_wp2_with fail
  refine (rnone_any b m most _ HR0.out.blk).mono ?_
  rintro e w2 ⟨rfl, hw2⟩
  subst w2
  obtain ⟨p0, p1, p2, p3⟩ := HP0.out.c4
  have HZ1 := HZ0.out
  go_upto_region 4 with fail
  refine rb_name fun V hV => ?_
  have HRV : Hid (RibAt V base b m most S) := by rw [hV]; exact HR0.out.alloc _
  have HQV : Hid (CellsAt V (s + 1) (pathAr noPk 0 noAtr false) 64) := by rw [hV]; exact HQ0.out.alloc _
  have HBV : Hid (Below w.heap.size w V) := by rw [hV]; exact HB0.out.alloc HB0.out.size _
  have HKV : Hid (CellsAt V (s + 1 + 1) #[.int .i64 k.fam, .int .u64 k.rd, .string k.addr, .int .i64 k.len, .int .u32 (k.id : Nat)] 83) := by
    have h := CellsAt.new V0 #[.int .i64 k.fam, .int .u64 k.rd, .string k.addr, .int .i64 k.len, .int .u32 (k.id : Nat)] 83
    rw [HZ1] at h
    rw [hV]
    exact h
  have hsV : s + 1 + 1 < V.heap.size := HKV.out.lt
  have hbV : b < V.heap.size := HRV.out.lt.1
  have hmV : m < V.heap.size := HRV.out.lt.2
  try rw [HZ1]
  clear hV p0 p1 p2 p3 HP0 HQ0 HR0 HB0 HZ0 HZ1
  have HI : Hid ((fun w' => CellsAt w' b #[.int .i64 most, .map (some m)] 53 ∧ MapAt Tryz.prog 83 w' m (tdL S) ∧ CellsAt w' (s + 1 + 1) #[.int .i64 k.fam, .int .u64 k.rd, .string k.addr, .int .i64 k.len, .int .u32 (k.id : Nat)] 83 ∧ Below V.heap.size V w') V.drew) := ⟨HRV.out.blk.drew 1, HRV.out.map.drew 1, HKV.out.drew 1, below_drewN (Below.refl _ _) 1⟩
  refine wp_region_held_drew (S := fun w' => CellsAt w' b #[.int .i64 most, .map (some m)] 53 ∧ MapAt Tryz.prog 83 w' m (tdL S) ∧ CellsAt w' (s + 1 + 1) #[.int .i64 k.fam, .int .u64 k.rd, .string k.addr, .int .i64 k.len, .int .u32 (k.id : Nat)] 83 ∧ Below V.heap.size V w') (by kernel_rfl) (HI.out) (fun hHeld => ?_)
  refine wpAnyH_take (i := 0) (oi := { dst := some 18, op := Op.move (Operand.tmp 0), type := 23, pos := "adjin.go:96", after := #[], guard := none }) (v := ?_) rfl (by kernel_rfl) (by kernel_rfl) (by kernel_rfl) (fun _ _ _ h => h) (Or.inl ⟨by rfl, ?_⟩) hHeld ?_
  rotate_left
  · intro w hSw
    clear hSw
    go_simp
    try with_reducible rfl
  try simp only [Act.put, List.setIfInBounds_toArray, List.set_cons_zero, List.set_cons_succ]
  refine wpAnyH_take (i := 1) (oi := { dst := some 19, op := Op.nilCheck (Operand.tmp 18), type := 0, pos := "adjin.go:96", after := #[{ on := 0, ground := Ground.data }], guard := none }) (v := ?_) rfl (by kernel_rfl) (by kernel_rfl) (by kernel_rfl) (fun _ _ _ h => h) (Or.inl ⟨by rfl, ?_⟩) hHeld ?_
  rotate_left
  · intro w hSw
    clear hSw
    go_simp
    try with_reducible rfl
  try simp only [Act.put, List.setIfInBounds_toArray, List.set_cons_zero, List.set_cons_succ]
  refine wpAnyH_take (i := 2) (oi := { dst := some 20, op := Op.fieldAddr 53 (Operand.tmp 19) 1, type := 0, pos := "adjin.go:96", after := #[{ on := 1, ground := Ground.data }], guard := none }) (v := ?_) rfl (by kernel_rfl) (by kernel_rfl) (by kernel_rfl) (fun _ _ _ h => h) (Or.inl ⟨by rfl, ?_⟩) hHeld ?_
  rotate_left
  · intro w hSw
    clear hSw
    go_simp
    try with_reducible rfl
  try simp only [Act.put, List.setIfInBounds_toArray, List.set_cons_zero, List.set_cons_succ]
  refine wpAnyH_take (i := 3) (oi := { dst := some 21, op := Op.load 51 (Operand.tmp 20), type := 51, pos := "adjin.go:96", after := #[{ on := 2, ground := Ground.data }], guard := none }) (v := ?_) rfl (by kernel_rfl) (by kernel_rfl) (by kernel_rfl) (fun _ _ _ h => h) (Or.inl ⟨by rfl, ?_⟩) hHeld ?_
  rotate_left
  · intro w hSw
    obtain ⟨q1, q2, q3, q4⟩ := hSw
    obtain ⟨c0, c1⟩ := q1.c2
    obtain ⟨k0, k1, k2, k3, k4⟩ := q3.c5
    go_simp
    try with_reducible rfl
  try simp only [Act.put, List.setIfInBounds_toArray, List.set_cons_zero, List.set_cons_succ]
  refine wpAnyH_take (i := 4) (oi := { dst := some 22, op := Op.load 83 (Operand.tmp 8), type := 83, pos := "adjin.go:96", after := #[], guard := none }) (v := ?_) rfl (by kernel_rfl) (by kernel_rfl) (by kernel_rfl) (fun _ _ _ h => h) (Or.inl ⟨by rfl, ?_⟩) hHeld ?_
  rotate_left
  · intro w hSw
    obtain ⟨q1, q2, q3, q4⟩ := hSw
    obtain ⟨c0, c1⟩ := q1.c2
    obtain ⟨k0, k1, k2, k3, k4⟩ := q3.c5
    go_simp
    try with_reducible rfl
  try simp only [Act.put, List.setIfInBounds_toArray, List.set_cons_zero, List.set_cons_succ]
  refine wpAnyH_take (i := 5) (oi := { dst := some 23, op := Op.lookup 51 (Operand.tmp 21) (Operand.tmp 22) true, type := 94, pos := "adjin.go:96", after := #[{ on := 3, ground := Ground.data }, { on := 4, ground := Ground.data }], guard := none }) (v := ?_) rfl (by kernel_rfl) (by kernel_rfl) (by kernel_rfl) (fun _ _ _ h => h) (Or.inl ⟨by rfl, ?_⟩) hHeld ?_
  rotate_left
  · intro w hSw
    obtain ⟨q1, q2, q3, q4⟩ := hSw
    have hlk := q2.lookup_none (t := 51) pkLaw Tryz.underlying51 (zero_td _) HKL.out (tdL_no HJ.out)
    unfold Pk.v at hlk
    go_simp
    try with_reducible rfl
  try simp only [Act.put, List.setIfInBounds_toArray, List.set_cons_zero, List.set_cons_succ]
  refine wpAnyH_take (i := 6) (oi := { dst := some 17, op := Op.move (Operand.tmp 23), type := 94, pos := "adjin.go:96", after := #[{ on := 5, ground := Ground.data }], guard := none }) (v := ?_) rfl (by kernel_rfl) (by kernel_rfl) (by kernel_rfl) (fun _ _ _ h => h) (Or.inl ⟨by rfl, ?_⟩) hHeld ?_
  rotate_left
  · intro w hSw
    clear hSw
    go_simp
    try with_reducible rfl
  try simp only [Act.put, List.setIfInBounds_toArray, List.set_cons_zero, List.set_cons_succ]
  refine wpAnyH_take (i := 7) (oi := { dst := some 24, op := Op.extract (Operand.tmp 17) 0, type := 86, pos := "adjin.go:96", after := #[{ on := 6, ground := Ground.data }], guard := none }) (v := ?_) rfl (by kernel_rfl) (by kernel_rfl) (by kernel_rfl) (fun _ _ _ h => h) (Or.inl ⟨by rfl, ?_⟩) hHeld ?_
  rotate_left
  · intro w hSw
    clear hSw
    go_simp
    try with_reducible rfl
  try simp only [Act.put, List.setIfInBounds_toArray, List.set_cons_zero, List.set_cons_succ]
  refine wpAnyH_take (i := 8) (oi := { dst := some 25, op := Op.extract (Operand.tmp 17) 1, type := 4, pos := "adjin.go:96", after := #[{ on := 6, ground := Ground.data }, { on := 10, ground := Ground.gcOnly Departure.lateStores }], guard := none }) (v := ?_) rfl (by kernel_rfl) (by kernel_rfl) (by kernel_rfl) (fun _ _ _ h => h) (Or.inl ⟨by rfl, ?_⟩) hHeld ?_
  rotate_left
  · intro w hSw
    clear hSw
    go_simp
    try with_reducible rfl
  try simp only [Act.put, List.setIfInBounds_toArray, List.set_cons_zero, List.set_cons_succ]
  refine wpAnyH_ready (rs := [9]) (by kernel_rfl) (by simp) ?_
  refine AllReadyH.cons (o := { dst := some 9, op := Op.alloc 86, type := 0, pos := "adjin.go:96", after := #[], guard := none }) rfl (fun K hK => ?_) AllReadyH.nil
  go_simp
  skip
  refine hK.out _ _ (And.intro (hHeld.1.alloc _) (And.intro (hHeld.2.1.alloc _) (And.intro (hHeld.2.2.1.alloc _) (hHeld.2.2.2.alloc hHeld.2.2.2.size _)))) (fun hHeld => ?_)
  clear hK K
  try simp only [Act.put, List.setIfInBounds_toArray, List.set_cons_zero, List.set_cons_succ]
  refine wpAnyH_ready (rs := [10]) (by kernel_rfl) (by simp) ?_
  refine AllReadyH.cons (o := { dst := none, op := Op.store 86 (Operand.tmp 9) (Operand.tmp 24), type := 0, pos := "adjin.go:96", after := #[{ on := 9, ground := Ground.data }, { on := 7, ground := Ground.data }, { on := 0, ground := Ground.phase }, { on := 1, ground := Ground.phase }, { on := 2, ground := Ground.phase }, { on := 3, ground := Ground.phase }, { on := 4, ground := Ground.phase }, { on := 5, ground := Ground.phase }, { on := 6, ground := Ground.phase }, { on := 7, ground := Ground.phase }, { on := 8, ground := Ground.textOnly Departure.lateStores }, { on := 9, ground := Ground.phase }], guard := none }) rfl (fun K hK => ?_) AllReadyH.nil
  refine wp_store_row 86 (.tmp 9) (.tmp 24) rfl V.heap.size (Td.mk noPk 0 noAtr false).ar rfl rfl 86 _ (CellsAt.new V.drew _ _) (by rw [told_size]; rfl) rfl (told_ones _) ?_
  refine hK.out _ _ (And.intro (hHeld.1.row (grown_setRow' _ _ _) (Nat.ne_of_lt hbV)) (And.intro (hHeld.2.1.rowB _ (Nat.ne_of_lt hmV)) (And.intro (hHeld.2.2.1.row (grown_setRow' _ _ _) (Nat.ne_of_lt hsV)) (hHeld.2.2.2.grown (grown_setRow' _ _ _) hHeld.2.2.2.size (fun q hq => by cases hq; exact Nat.le_refl _))))) (fun hHeld => ?_)
  clear hK K
  try simp only [Act.put, List.setIfInBounds_toArray, List.set_cons_zero, List.set_cons_succ]
  refine wpAnyH_take (i := 11) (oi := { dst := some 10, op := Op.assign (Operand.tmp 25), type := 4, pos := "adjin.go:96", after := #[{ on := 8, ground := Ground.data }, { on := 10, ground := Ground.chain }, { on := 0, ground := Ground.phase }, { on := 1, ground := Ground.phase }, { on := 2, ground := Ground.phase }, { on := 3, ground := Ground.phase }, { on := 4, ground := Ground.phase }, { on := 5, ground := Ground.phase }, { on := 6, ground := Ground.phase }, { on := 7, ground := Ground.phase }, { on := 8, ground := Ground.phase }, { on := 9, ground := Ground.phase }, { on := 10, ground := Ground.phase }], guard := none }) (v := ?_) rfl (by kernel_rfl) (by kernel_rfl) (by kernel_rfl) (fun _ _ _ h => h) (Or.inl ⟨by rfl, ?_⟩) hHeld ?_
  rotate_left
  · intro w hSw
    clear hSw
    go_simp
    try with_reducible rfl
  try simp only [Act.put, List.setIfInBounds_toArray, List.set_cons_zero, List.set_cons_succ]
  refine wpAnyH_done (by kernel_rfl) ?_ _
  have HH := Lib.hid hHeld
  have HTD : Hid (CellsAt ((V.drew.alloc (.cells (Td.mk noPk 0 noAtr false).ar 86)).setRow V.heap.size (Td.mk noPk 0 noAtr false).ar) V.heap.size (Td.mk noPk 0 noAtr false).ar 86) := CellsAt.setRow' (CellsAt.new V.drew _ _) _
  clear hHeld
  go_upto_region 5 with fail
  refine rb_name fun X hX => ?_
  have HRX : Hid (Below V.heap.size V X) := by rw [hX]; exact HH.out.2.2.2
  have HKX : Hid (CellsAt X (s + 1 + 1) #[.int .i64 k.fam, .int .u64 k.rd, .string k.addr, .int .i64 k.len, .int .u32 (k.id : Nat)] 83) := by rw [hX]; exact HH.out.2.2.1
  have HTX : Hid (CellsAt X V.heap.size (Td.mk noPk 0 noAtr false).ar 86) := by rw [hX]; exact HTD.out
  have HQX : Hid (CellsAt X (s + 1) (pathAr noPk 0 noAtr false) 64) := HQV.out.below HRX.out HQV.out.lt
  have HBX : Hid (Below w.heap.size w X) := HBV.out.trans (HRX.out.mono HBV.out.size)
  clear hX HH HTD
  go_wp2_with (with_reducible show wpList _ _ _ (_ :: _) _ _; refine wpList_store_path rfl (.tmp 6) (.tmp 28) rfl (s + 1) rfl noPk 0 noAtr false rfl _ HQX.out rfl ?_)
  have HF : Hid (CellsAt (X.setRow (s + 1) (pathAr noPk 0 noAtr false)) (s + 1) (pathAr noPk 0 noAtr false) 64) := HQX.out.setRow' _
  have HBF : Hid (Below w.heap.size w (X.setRow (s + 1) (pathAr noPk 0 noAtr false))) := HBX.out.grown (grown_setRow' _ _ _) HBX.out.size (fun q hq => by cases hq; have := HS.out; omega)
  exact bodyPost_ret (results_path2 rfl _ _ (s + 1) _ rfl (.bool false) rfl rfl HF.out) rfl ⟨rfl, HBF.out⟩
theorem rget_any (w : World) (base b m : Nat) (most : Int) (S : List Td) (h : RibAt w base b m most S) (k : Pk) (hk : k.Ok) :
    Calls Tryz.prog 18 #[.pointer (some ⟨b, 0, none⟩), .agg #[.int .i64 k.fam, .int .u64 k.rd, .string k.addr, .int .i64 k.len], .int .u32 (k.id : Nat)] w fun e w' => GetPost w.heap.size (S.map Td.c) k w' e ∧ Below w.heap.size w w' := by
  by_cases hx : ∃ p ∈ S, p.k = k
  · obtain ⟨p, hp, rfl⟩ := hx
    obtain ⟨j, hj⟩ := List.getElem?_of_mem hp
    refine (rget_some w base b m most S h j p hj).mono ?_
    rintro e w' ⟨⟨a, he, ho, hc⟩, hb⟩
    refine ⟨?_, hb⟩
    unfold GetPost
    rw [get_at h.keys hj]
    exact ⟨a, he, ho, hc⟩
  · have hn : ∀ p ∈ S, p.k ≠ k := fun p hp e => hx ⟨p, hp, e⟩
    refine (rget_none w base b m most S h k hk hn).mono ?_
    rintro e w' ⟨he, hb⟩
    refine ⟨?_, hb⟩
    unfold GetPost
    rw [get_no hn]
    exact he
end Go.Proofs.YtldpcliahfiloaaGreat
