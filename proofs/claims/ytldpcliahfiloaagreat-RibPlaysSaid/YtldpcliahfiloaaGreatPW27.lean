/-
  Several texts in one.
-/
import Derived.Test.YtldpcliahfiloaaGreatPW26
set_option linter.unusedVariables false
set_option linter.unusedSimpArgs false
namespace Go.Proofs.YtldpcliahfiloaaGreat
open Go.RowKit Go.MapKept Go.Shelf
open Go.Lib hiding intOf
open Go.Sort hiding Below
open Go.Maps (Keyed)

theorem c6 {w : World} {b : Nat} {T : TypeId} {x y z u v t : Value} (h : CellsAt w b #[x, y, z, u, v, t] T) : w.cell? ⟨b, 0, none⟩ = some x ∧ w.cell? ⟨b, 1, none⟩ = some y ∧ w.cell? ⟨b, 2, none⟩ = some z ∧ w.cell? ⟨b, 3, none⟩ = some u ∧ w.cell? ⟨b, 4, none⟩ = some v ∧ w.cell? ⟨b, 5, none⟩ = some t :=
  ⟨(h.c 0).trans rfl, (h.c 1).trans rfl, (h.c 2).trans rfl, (h.c 3).trans rfl, (h.c 4).trans rfl, (h.c 5).trans rfl⟩
set_option maxRecDepth 100000 in
set_option maxHeartbeats 8000000 in
theorem rgone_some (w : World) (base b m : Nat) (most : Int) (S : List Td) (h : RibAt w base b m most S) (k : Pk) (label : Nat) (hk : k.Ok) (j : Nat) (p : Td) (hj : S[j]? = some p) (he : p.k = k) :
    Calls Tryz.prog 17 #[.pointer (some ⟨b, 0, none⟩), .agg #[.int .i64 k.fam, .int .u64 k.rd, .string k.addr, .int .i64 k.len, .int .u32 (k.id : Nat), .int .u32 (label : Nat)]] w fun e w' => e = .returned (.bool true) ∧ RibAt w' base b m most (S.eraseIdx j) ∧ GrownX (fun i => i = m) w w' := by
  subst he
  obtain ⟨kl, hkl⟩ := pk_key p.k hk
  have HKL := Lib.hid hkl
  have HJ := Lib.hid hj
  have lb := h.lt.1
  have lm := h.lt.2
  have N1 := h.ne
  have HRIB := Lib.hid h
  clear hkl hj h hk
  go_enter Tryz.func17, Tryz.ntmps17
  go_upto_region 1 with fail
  refine rb_name fun V0 hV0 => ?_
  obtain ⟨s, hs⟩ : ∃ s, s = w.heap.size := ⟨_, rfl⟩
  have HR0 : Hid (RibAt V0 base b m most S) := by rw [hV0]; exact HRIB.out.alloc _
  have HP0 : Hid (CellsAt V0 s #[.int .i64 p.k.fam, .int .u64 p.k.rd, .string p.k.addr, .int .i64 p.k.len, .int .u32 (p.k.id : Nat), .int .u32 (label : Nat)] 35) := by rw [hV0, hs]; exact CellsAt.new _ _ _
  have HB0 : Hid (Below w.heap.size w V0) := by rw [hV0]; exact (Below.refl _ _).alloc (Nat.le_refl _) _
  have HZ0 : Hid (V0.heap.size = s + 1) := by show _ = _; rw [hV0, hs]; simp
  have HS : Hid (s = w.heap.size) := hs
  rw [← hs]
  clear hV0 hs
  go_wp2_with fail
  refine (rnone_any b m most _ HR0.out.blk).mono ?_
  rintro e w2 ⟨rfl, hw2⟩
  subst w2
  obtain ⟨p0, p1, p2, p3, p4, p5⟩ := c6 HP0.out
  have HZ1 := HZ0.out
  go_upto_region 4 with fail
  refine rb_name fun V hV => ?_
  have HRV : Hid (RibAt V base b m most S) := by rw [hV]; exact HR0.out.alloc _
  have HBV : Hid (Below w.heap.size w V) := by rw [hV]; exact HB0.out.alloc HB0.out.size _
  have HKV : Hid (CellsAt V (s + 1) #[.int .i64 p.k.fam, .int .u64 p.k.rd, .string p.k.addr, .int .i64 p.k.len, .int .u32 (p.k.id : Nat)] 83) := by
    have h := CellsAt.new V0 #[.int .i64 p.k.fam, .int .u64 p.k.rd, .string p.k.addr, .int .i64 p.k.len, .int .u32 (p.k.id : Nat)] 83
    rw [HZ1] at h
    rw [hV]
    exact h
  have hsV : s + 1 < V.heap.size := HKV.out.lt
  have hbV : b < V.heap.size := HRV.out.lt.1
  have hmV : m < V.heap.size := HRV.out.lt.2
  try rw [HZ1]
  clear hV p0 p1 p2 p3 p4 p5 HP0 HR0 HB0 HZ0 HZ1
  have HI : Hid ((fun w' => CellsAt w' b #[.int .i64 most, .map (some m)] 53 ∧ MapAt Tryz.prog 83 w' m (tdL S) ∧ CellsAt w' (s + 1) #[.int .i64 p.k.fam, .int .u64 p.k.rd, .string p.k.addr, .int .i64 p.k.len, .int .u32 (p.k.id : Nat)] 83 ∧ Below V.heap.size V w') V.drew) := ⟨HRV.out.blk.drew 1, HRV.out.map.drew 1, HKV.out.drew 1, below_drewN (Below.refl _ _) 1⟩
  refine wp_region_held_drew (S := fun w' => CellsAt w' b #[.int .i64 most, .map (some m)] 53 ∧ MapAt Tryz.prog 83 w' m (tdL S) ∧ CellsAt w' (s + 1) #[.int .i64 p.k.fam, .int .u64 p.k.rd, .string p.k.addr, .int .i64 p.k.len, .int .u32 (p.k.id : Nat)] 83 ∧ Below V.heap.size V w') (by kernel_rfl) (HI.out) (fun hHeld => ?_)
  refine wpAnyH_take (i := 0) (oi := { dst := some 16, op := Op.move (Operand.tmp 0), type := 23, pos := "adjin.go:85", after := #[], guard := none }) (v := ?_) rfl (by kernel_rfl) (by kernel_rfl) (by kernel_rfl) (fun _ _ _ h => h) (Or.inl ⟨by rfl, ?_⟩) hHeld ?_
  rotate_left
  · intro w hSw
    clear hSw
    go_simp
    try with_reducible rfl
  try simp only [Act.put, List.setIfInBounds_toArray, List.set_cons_zero, List.set_cons_succ]
  refine wpAnyH_take (i := 1) (oi := { dst := some 17, op := Op.nilCheck (Operand.tmp 16), type := 0, pos := "adjin.go:85", after := #[{ on := 0, ground := Ground.data }], guard := none }) (v := ?_) rfl (by kernel_rfl) (by kernel_rfl) (by kernel_rfl) (fun _ _ _ h => h) (Or.inl ⟨by rfl, ?_⟩) hHeld ?_
  rotate_left
  · intro w hSw
    clear hSw
    go_simp
    try with_reducible rfl
  try simp only [Act.put, List.setIfInBounds_toArray, List.set_cons_zero, List.set_cons_succ]
  refine wpAnyH_take (i := 2) (oi := { dst := some 18, op := Op.fieldAddr 53 (Operand.tmp 17) 1, type := 0, pos := "adjin.go:85", after := #[{ on := 1, ground := Ground.data }], guard := none }) (v := ?_) rfl (by kernel_rfl) (by kernel_rfl) (by kernel_rfl) (fun _ _ _ h => h) (Or.inl ⟨by rfl, ?_⟩) hHeld ?_
  rotate_left
  · intro w hSw
    clear hSw
    go_simp
    try with_reducible rfl
  try simp only [Act.put, List.setIfInBounds_toArray, List.set_cons_zero, List.set_cons_succ]
  refine wpAnyH_take (i := 3) (oi := { dst := some 19, op := Op.load 51 (Operand.tmp 18), type := 51, pos := "adjin.go:85", after := #[{ on := 2, ground := Ground.data }], guard := none }) (v := ?_) rfl (by kernel_rfl) (by kernel_rfl) (by kernel_rfl) (fun _ _ _ h => h) (Or.inl ⟨by rfl, ?_⟩) hHeld ?_
  rotate_left
  · intro w hSw
    obtain ⟨q1, q2, q3, q4⟩ := hSw
    obtain ⟨c0, c1⟩ := q1.c2
    obtain ⟨k0, k1, k2, k3, k4⟩ := q3.c5
    go_simp
    try with_reducible rfl
  try simp only [Act.put, List.setIfInBounds_toArray, List.set_cons_zero, List.set_cons_succ]
  refine wpAnyH_take (i := 4) (oi := { dst := some 20, op := Op.load 83 (Operand.tmp 5), type := 83, pos := "adjin.go:85", after := #[], guard := none }) (v := ?_) rfl (by kernel_rfl) (by kernel_rfl) (by kernel_rfl) (fun _ _ _ h => h) (Or.inl ⟨by rfl, ?_⟩) hHeld ?_
  rotate_left
  · intro w hSw
    obtain ⟨q1, q2, q3, q4⟩ := hSw
    obtain ⟨c0, c1⟩ := q1.c2
    obtain ⟨k0, k1, k2, k3, k4⟩ := q3.c5
    go_simp
    try with_reducible rfl
  try simp only [Act.put, List.setIfInBounds_toArray, List.set_cons_zero, List.set_cons_succ]
  refine wpAnyH_take (i := 5) (oi := { dst := some 21, op := Op.lookup 51 (Operand.tmp 19) (Operand.tmp 20) true, type := 94, pos := "adjin.go:85", after := #[{ on := 3, ground := Ground.data }, { on := 4, ground := Ground.data }], guard := none }) (v := ?_) rfl (by kernel_rfl) (by kernel_rfl) (by kernel_rfl) (fun _ _ _ h => h) (Or.inl ⟨by rfl, ?_⟩) hHeld ?_
  rotate_left
  · intro w hSw
    obtain ⟨q1, q2, q3, q4⟩ := hSw
    have hlk := q2.lookup_some (t := 51) pkLaw Tryz.underlying51 (zero_td _) HKL.out (tdL_at HJ.out)
    unfold Pk.v at hlk
    go_simp
    try with_reducible rfl
  try simp only [Act.put, List.setIfInBounds_toArray, List.set_cons_zero, List.set_cons_succ]
  refine wpAnyH_take (i := 6) (oi := { dst := some 15, op := Op.move (Operand.tmp 21), type := 94, pos := "adjin.go:85", after := #[{ on := 5, ground := Ground.data }], guard := none }) (v := ?_) rfl (by kernel_rfl) (by kernel_rfl) (by kernel_rfl) (fun _ _ _ h => h) (Or.inl ⟨by rfl, ?_⟩) hHeld ?_
  rotate_left
  · intro w hSw
    clear hSw
    go_simp
    try with_reducible rfl
  try simp only [Act.put, List.setIfInBounds_toArray, List.set_cons_zero, List.set_cons_succ]
  refine wpAnyH_take (i := 7) (oi := { dst := some 22, op := Op.extract (Operand.tmp 15) 0, type := 86, pos := "adjin.go:85", after := #[{ on := 6, ground := Ground.data }], guard := none }) (v := ?_) rfl (by kernel_rfl) (by kernel_rfl) (by kernel_rfl) (fun _ _ _ h => h) (Or.inl ⟨by rfl, ?_⟩) hHeld ?_
  rotate_left
  · intro w hSw
    clear hSw
    go_simp
    try with_reducible rfl
  try simp only [Act.put, List.setIfInBounds_toArray, List.set_cons_zero, List.set_cons_succ]
  refine wpAnyH_take (i := 8) (oi := { dst := some 23, op := Op.extract (Operand.tmp 15) 1, type := 4, pos := "adjin.go:85", after := #[{ on := 6, ground := Ground.data }, { on := 10, ground := Ground.gcOnly Departure.lateStores }], guard := none }) (v := ?_) rfl (by kernel_rfl) (by kernel_rfl) (by kernel_rfl) (fun _ _ _ h => h) (Or.inl ⟨by rfl, ?_⟩) hHeld ?_
  rotate_left
  · intro w hSw
    clear hSw
    go_simp
    try with_reducible rfl
  try simp only [Act.put, List.setIfInBounds_toArray, List.set_cons_zero, List.set_cons_succ]
  refine wpAnyH_ready (rs := [9]) (by kernel_rfl) (by simp) ?_
  refine AllReadyH.cons (o := { dst := some 6, op := Op.alloc 86, type := 0, pos := "adjin.go:85", after := #[], guard := none }) rfl (fun K hK => ?_) AllReadyH.nil
  go_simp
  skip
  refine hK.out _ _ (And.intro (hHeld.1.alloc _) (And.intro (hHeld.2.1.alloc _) (And.intro (hHeld.2.2.1.alloc _) (hHeld.2.2.2.alloc hHeld.2.2.2.size _)))) (fun hHeld => ?_)
  clear hK K
  try simp only [Act.put, List.setIfInBounds_toArray, List.set_cons_zero, List.set_cons_succ]
  refine wpAnyH_ready (rs := [10]) (by kernel_rfl) (by simp) ?_
  refine AllReadyH.cons (o := { dst := none, op := Op.store 86 (Operand.tmp 6) (Operand.tmp 22), type := 0, pos := "adjin.go:85", after := #[{ on := 9, ground := Ground.data }, { on := 7, ground := Ground.data }, { on := 0, ground := Ground.phase }, { on := 1, ground := Ground.phase }, { on := 2, ground := Ground.phase }, { on := 3, ground := Ground.phase }, { on := 4, ground := Ground.phase }, { on := 5, ground := Ground.phase }, { on := 6, ground := Ground.phase }, { on := 7, ground := Ground.phase }, { on := 8, ground := Ground.textOnly Departure.lateStores }, { on := 9, ground := Ground.phase }], guard := none }) rfl (fun K hK => ?_) AllReadyH.nil
  refine wp_store_row 86 (.tmp 6) (.tmp 22) rfl V.heap.size p.ar rfl rfl 86 _ (CellsAt.new V.drew _ _) (by rw [told_size]; rfl) rfl (told_ones _) ?_
  refine hK.out _ _ (And.intro (hHeld.1.row (grown_setRow' _ _ _) (Nat.ne_of_lt hbV)) (And.intro (hHeld.2.1.rowB _ (Nat.ne_of_lt hmV)) (And.intro (hHeld.2.2.1.row (grown_setRow' _ _ _) (Nat.ne_of_lt hsV)) (hHeld.2.2.2.grown (grown_setRow' _ _ _) hHeld.2.2.2.size (fun q hq => by cases hq; exact Nat.le_refl _))))) (fun hHeld => ?_)
  clear hK K
  try simp only [Act.put, List.setIfInBounds_toArray, List.set_cons_zero, List.set_cons_succ]
  refine wpAnyH_take (i := 11) (oi := { dst := some 7, op := Op.assign (Operand.tmp 23), type := 4, pos := "adjin.go:85", after := #[{ on := 8, ground := Ground.data }, { on := 10, ground := Ground.chain }, { on := 0, ground := Ground.phase }, { on := 1, ground := Ground.phase }, { on := 2, ground := Ground.phase }, { on := 3, ground := Ground.phase }, { on := 4, ground := Ground.phase }, { on := 5, ground := Ground.phase }, { on := 6, ground := Ground.phase }, { on := 7, ground := Ground.phase }, { on := 8, ground := Ground.phase }, { on := 9, ground := Ground.phase }, { on := 10, ground := Ground.phase }], guard := none }) (v := ?_) rfl (by kernel_rfl) (by kernel_rfl) (by kernel_rfl) (fun _ _ _ h => h) (Or.inl ⟨by rfl, ?_⟩) hHeld ?_
  rotate_left
  · intro w hSw
    clear hSw
    go_simp
    try with_reducible rfl
  try simp only [Act.put, List.setIfInBounds_toArray, List.set_cons_zero, List.set_cons_succ]
  refine wpAnyH_done (by kernel_rfl) ?_ _
  have HH := Lib.hid hHeld
  clear hHeld
  go_upto_region 5 with fail
  refine rb_name fun X hX => ?_
  have HRX : Hid (Below V.heap.size V X) := by rw [hX]; exact HH.out.2.2.2
  have HKX : Hid (CellsAt X (s + 1) #[.int .i64 p.k.fam, .int .u64 p.k.rd, .string p.k.addr, .int .i64 p.k.len, .int .u32 (p.k.id : Nat)] 83) := by rw [hX]; exact HH.out.2.2.1
  have HIX : Hid (RibAt X base b m most S) := HRV.out.below HRX.out
  have HBX : Hid (Below w.heap.size w X) := HBV.out.trans (HRX.out.mono HBV.out.size)
  have NS : s + 1 ≠ m := by have := HS.out; omega
  clear hX HH hsV hbV hmV
  have hmap : MapAt Tryz.prog 83 X.drew m (tdL S) := HIX.out.map.drew 1
  obtain ⟨W1, e1, g1, M1⟩ := hmap.delete_some (t := 51) (ty := 0) pkLaw Tryz.underlying51 HKL.out (tdL_at HJ.out)
  rw [tdL_erase] at M1
  have G' : GrownX (fun i => i = m) w W1 := (GrownX.of_below (below_drewN HBX.out 1)).trans (GrownX.of_row g1 rfl)
  have hX1 : ∀ i, i = m → ∀ cs T fr, X.drew.heap[i]? ≠ some (.cells cs T fr) := fun i hi => by rw [hi]; exact (HIX.out.drew 1).mapBlk
  have hF : RibAt W1 base b m most (S.eraseIdx j) := ⟨(HIX.out.blk.drew 1).row g1 N1, M1, N1, fun p hp => HIX.out.ok p ((List.eraseIdx_sublist _ _).subset hp), fun p hp => AtO.keepX (((HIX.out.drew 1).own p ((List.eraseIdx_sublist _ _).subset hp))) (GrownX.of_row (X := fun i => i = m) g1 rfl) hX1, fun p hp => HIX.out.sz p ((List.eraseIdx_sublist _ _).subset hp), Nat.le_trans (List.length_eraseIdx_le ..) HIX.out.len, HIX.out.low⟩
  unfold Pk.v at e1
  have HF := Lib.hid hF
  have HG := Lib.hid G'
  have HI5 : Hid ((fun w' => CellsAt w' b #[.int .i64 most, .map (some m)] 53 ∧ (∃ L, MapAt Tryz.prog 83 w' m L) ∧ CellsAt w' (s + 1) #[.int .i64 p.k.fam, .int .u64 p.k.rd, .string p.k.addr, .int .i64 p.k.len, .int .u32 (p.k.id : Nat)] 83) X.drew) := ⟨HIX.out.blk.drew 1, ⟨_, hmap⟩, HKX.out.drew 1⟩
  clear hF G' hX1
  refine wp_region_held_drew (S := fun w' => CellsAt w' b #[.int .i64 most, .map (some m)] 53 ∧ (∃ L, MapAt Tryz.prog 83 w' m L) ∧ CellsAt w' (s + 1) #[.int .i64 p.k.fam, .int .u64 p.k.rd, .string p.k.addr, .int .i64 p.k.len, .int .u32 (p.k.id : Nat)] 83) (by kernel_rfl) (HI5.out) (fun hHeld => ?_)
  refine wpAnyH_take (i := 0) (oi := { dst := some 24, op := Op.move (Operand.tmp 0), type := 23, pos := "adjin.go:86", after := #[], guard := none }) (v := ?_) rfl (by kernel_rfl) (by kernel_rfl) (by kernel_rfl) (fun _ _ _ h => h) (Or.inl ⟨by rfl, ?_⟩) hHeld ?_
  rotate_left
  · intro w hSw
    clear hSw
    go_simp
    try with_reducible rfl
  try simp only [Act.put, List.setIfInBounds_toArray, List.set_cons_zero, List.set_cons_succ]
  refine wpAnyH_take (i := 1) (oi := { dst := some 25, op := Op.nilCheck (Operand.tmp 24), type := 0, pos := "adjin.go:86", after := #[{ on := 0, ground := Ground.data }], guard := none }) (v := ?_) rfl (by kernel_rfl) (by kernel_rfl) (by kernel_rfl) (fun _ _ _ h => h) (Or.inl ⟨by rfl, ?_⟩) hHeld ?_
  rotate_left
  · intro w hSw
    clear hSw
    go_simp
    try with_reducible rfl
  try simp only [Act.put, List.setIfInBounds_toArray, List.set_cons_zero, List.set_cons_succ]
  refine wpAnyH_take (i := 2) (oi := { dst := some 26, op := Op.fieldAddr 53 (Operand.tmp 25) 1, type := 0, pos := "adjin.go:86", after := #[{ on := 1, ground := Ground.data }], guard := none }) (v := ?_) rfl (by kernel_rfl) (by kernel_rfl) (by kernel_rfl) (fun _ _ _ h => h) (Or.inl ⟨by rfl, ?_⟩) hHeld ?_
  rotate_left
  · intro w hSw
    clear hSw
    go_simp
    try with_reducible rfl
  try simp only [Act.put, List.setIfInBounds_toArray, List.set_cons_zero, List.set_cons_succ]
  refine wpAnyH_take (i := 3) (oi := { dst := some 27, op := Op.load 51 (Operand.tmp 26), type := 51, pos := "adjin.go:86", after := #[{ on := 2, ground := Ground.data }], guard := none }) (v := ?_) rfl (by kernel_rfl) (by kernel_rfl) (by kernel_rfl) (fun _ _ _ h => h) (Or.inl ⟨by rfl, ?_⟩) hHeld ?_
  rotate_left
  · intro w hSw
    obtain ⟨q1, q2, q3⟩ := hSw
    obtain ⟨c0, c1⟩ := q1.c2
    obtain ⟨k0, k1, k2, k3, k4⟩ := q3.c5
    go_simp
    try with_reducible rfl
  try simp only [Act.put, List.setIfInBounds_toArray, List.set_cons_zero, List.set_cons_succ]
  refine wpAnyH_take (i := 4) (oi := { dst := some 28, op := Op.load 83 (Operand.tmp 5), type := 83, pos := "adjin.go:86", after := #[], guard := none }) (v := ?_) rfl (by kernel_rfl) (by kernel_rfl) (by kernel_rfl) (fun _ _ _ h => h) (Or.inl ⟨by rfl, ?_⟩) hHeld ?_
  rotate_left
  · intro w hSw
    obtain ⟨q1, q2, q3⟩ := hSw
    obtain ⟨c0, c1⟩ := q1.c2
    obtain ⟨k0, k1, k2, k3, k4⟩ := q3.c5
    go_simp
    try with_reducible rfl
  try simp only [Act.put, List.setIfInBounds_toArray, List.set_cons_zero, List.set_cons_succ]
  refine wpAnyH_ready (rs := [5]) (by kernel_rfl) (by simp) ?_
  refine AllReadyH.cons (o := { dst := none, op := Op.call { callee := Callee.builtin Builtin.delete, args := #[Operand.tmp 27, Operand.tmp 28], argTypes := #[51, 83] }, type := 0, pos := "adjin.go:86", after := #[{ on := 3, ground := Ground.data }, { on := 4, ground := Ground.data }], guard := none }) rfl (fun K hK => ?_) AllReadyH.nil
  go_simp
  skip
  refine hK.out _ _ (And.intro (hHeld.1.row g1 N1) (And.intro ⟨_, M1⟩ (hHeld.2.2.row g1 NS))) (fun hHeld => ?_)
  clear hK K
  try simp only [Act.put, List.setIfInBounds_toArray, List.set_cons_zero, List.set_cons_succ]
  refine wpAnyH_done (by kernel_rfl) ?_ _
  clear hHeld
  go_wp2_with fail
  go_ret
  exact ⟨rfl, HF.out, HG.out⟩
set_option maxRecDepth 100000 in
set_option maxHeartbeats 8000000 in
theorem rgone_none (w : World) (base b m : Nat) (most : Int) (S : List Td) (h : RibAt w base b m most S) (k : Pk) (label : Nat) (hk : k.Ok) (hj : ∀ p ∈ S, p.k ≠ k) :
    Calls Tryz.prog 17 #[.pointer (some ⟨b, 0, none⟩), .agg #[.int .i64 k.fam, .int .u64 k.rd, .string k.addr, .int .i64 k.len, .int .u32 (k.id : Nat), .int .u32 (label : Nat)]] w fun e w' => e = .returned (.bool false) ∧ RibAt w' base b m most S ∧ GrownX (fun i => i = m) w w' := by
  obtain ⟨kl, hkl⟩ := pk_key k hk
  have HKL := Lib.hid hkl
  have HJ := Lib.hid hj
  have lb := h.lt.1
  have lm := h.lt.2
  have N1 := h.ne
  have HRIB := Lib.hid h
  clear hkl hj h hk
  go_enter Tryz.func17, Tryz.ntmps17
  go_upto_region 1 with fail
  refine rb_name fun V0 hV0 => ?_
  obtain ⟨s, hs⟩ : ∃ s, s = w.heap.size := ⟨_, rfl⟩
  have HR0 : Hid (RibAt V0 base b m most S) := by rw [hV0]; exact HRIB.out.alloc _
  have HP0 : Hid (CellsAt V0 s #[.int .i64 k.fam, .int .u64 k.rd, .string k.addr, .int .i64 k.len, .int .u32 (k.id : Nat), .int .u32 (label : Nat)] 35) := by rw [hV0, hs]; exact CellsAt.new _ _ _
  have HB0 : Hid (Below w.heap.size w V0) := by rw [hV0]; exact (Below.refl _ _).alloc (Nat.le_refl _) _
  have HZ0 : Hid (V0.heap.size = s + 1) := by show _ = _; rw [hV0, hs]; simp
  have HS : Hid (s = w.heap.size) := hs
  rw [← hs]
  clear hV0 hs
  go_wp2_with fail
  refine (rnone_any b m most _ HR0.out.blk).mono ?_
  rintro e w2 ⟨rfl, hw2⟩
  subst w2
  obtain ⟨p0, p1, p2, p3, p4, p5⟩ := c6 HP0.out
  have HZ1 := HZ0.out
  go_upto_region 4 with fail
  refine rb_name fun V hV => ?_
  have HRV : Hid (RibAt V base b m most S) := by rw [hV]; exact HR0.out.alloc _
  have HBV : Hid (Below w.heap.size w V) := by rw [hV]; exact HB0.out.alloc HB0.out.size _
  have HKV : Hid (CellsAt V (s + 1) #[.int .i64 k.fam, .int .u64 k.rd, .string k.addr, .int .i64 k.len, .int .u32 (k.id : Nat)] 83) := by
    have h := CellsAt.new V0 #[.int .i64 k.fam, .int .u64 k.rd, .string k.addr, .int .i64 k.len, .int .u32 (k.id : Nat)] 83
    rw [HZ1] at h
    rw [hV]
    exact h
  have hsV : s + 1 < V.heap.size := HKV.out.lt
  have hbV : b < V.heap.size := HRV.out.lt.1
  have hmV : m < V.heap.size := HRV.out.lt.2
  try rw [HZ1]
  clear hV p0 p1 p2 p3 p4 p5 HP0 HR0 HB0 HZ0 HZ1
  have HI : Hid ((fun w' => CellsAt w' b #[.int .i64 most, .map (some m)] 53 ∧ MapAt Tryz.prog 83 w' m (tdL S) ∧ CellsAt w' (s + 1) #[.int .i64 k.fam, .int .u64 k.rd, .string k.addr, .int .i64 k.len, .int .u32 (k.id : Nat)] 83 ∧ Below V.heap.size V w') V.drew) := ⟨HRV.out.blk.drew 1, HRV.out.map.drew 1, HKV.out.drew 1, below_drewN (Below.refl _ _) 1⟩
  refine wp_region_held_drew (S := fun w' => CellsAt w' b #[.int .i64 most, .map (some m)] 53 ∧ MapAt Tryz.prog 83 w' m (tdL S) ∧ CellsAt w' (s + 1) #[.int .i64 k.fam, .int .u64 k.rd, .string k.addr, .int .i64 k.len, .int .u32 (k.id : Nat)] 83 ∧ Below V.heap.size V w') (by kernel_rfl) (HI.out) (fun hHeld => ?_)
  refine wpAnyH_take (i := 0) (oi := { dst := some 16, op := Op.move (Operand.tmp 0), type := 23, pos := "adjin.go:85", after := #[], guard := none }) (v := ?_) rfl (by kernel_rfl) (by kernel_rfl) (by kernel_rfl) (fun _ _ _ h => h) (Or.inl ⟨by rfl, ?_⟩) hHeld ?_
  rotate_left
  · intro w hSw
    clear hSw
    go_simp
    try with_reducible rfl
  try simp only [Act.put, List.setIfInBounds_toArray, List.set_cons_zero, List.set_cons_succ]
  refine wpAnyH_take (i := 1) (oi := { dst := some 17, op := Op.nilCheck (Operand.tmp 16), type := 0, pos := "adjin.go:85", after := #[{ on := 0, ground := Ground.data }], guard := none }) (v := ?_) rfl (by kernel_rfl) (by kernel_rfl) (by kernel_rfl) (fun _ _ _ h => h) (Or.inl ⟨by rfl, ?_⟩) hHeld ?_
  rotate_left
  · intro w hSw
    clear hSw
    go_simp
    try with_reducible rfl
  try simp only [Act.put, List.setIfInBounds_toArray, List.set_cons_zero, List.set_cons_succ]
  refine wpAnyH_take (i := 2) (oi := { dst := some 18, op := Op.fieldAddr 53 (Operand.tmp 17) 1, type := 0, pos := "adjin.go:85", after := #[{ on := 1, ground := Ground.data }], guard := none }) (v := ?_) rfl (by kernel_rfl) (by kernel_rfl) (by kernel_rfl) (fun _ _ _ h => h) (Or.inl ⟨by rfl, ?_⟩) hHeld ?_
  rotate_left
  · intro w hSw
    clear hSw
    go_simp
    try with_reducible rfl
  try simp only [Act.put, List.setIfInBounds_toArray, List.set_cons_zero, List.set_cons_succ]
  refine wpAnyH_take (i := 3) (oi := { dst := some 19, op := Op.load 51 (Operand.tmp 18), type := 51, pos := "adjin.go:85", after := #[{ on := 2, ground := Ground.data }], guard := none }) (v := ?_) rfl (by kernel_rfl) (by kernel_rfl) (by kernel_rfl) (fun _ _ _ h => h) (Or.inl ⟨by rfl, ?_⟩) hHeld ?_
  rotate_left
  · intro w hSw
    obtain ⟨q1, q2, q3, q4⟩ := hSw
    obtain ⟨c0, c1⟩ := q1.c2
    obtain ⟨k0, k1, k2, k3, k4⟩ := q3.c5
    go_simp
    try with_reducible rfl
  try simp only [Act.put, List.setIfInBounds_toArray, List.set_cons_zero, List.set_cons_succ]
  refine wpAnyH_take (i := 4) (oi := { dst := some 20, op := Op.load 83 (Operand.tmp 5), type := 83, pos := "adjin.go:85", after := #[], guard := none }) (v := ?_) rfl (by kernel_rfl) (by kernel_rfl) (by kernel_rfl) (fun _ _ _ h => h) (Or.inl ⟨by rfl, ?_⟩) hHeld ?_
  rotate_left
  · intro w hSw
    obtain ⟨q1, q2, q3, q4⟩ := hSw
    obtain ⟨c0, c1⟩ := q1.c2
    obtain ⟨k0, k1, k2, k3, k4⟩ := q3.c5
    go_simp
    try with_reducible rfl
  try simp only [Act.put, List.setIfInBounds_toArray, List.set_cons_zero, List.set_cons_succ]
  refine wpAnyH_take (i := 5) (oi := { dst := some 21, op := Op.lookup 51 (Operand.tmp 19) (Operand.tmp 20) true, type := 94, pos := "adjin.go:85", after := #[{ on := 3, ground := Ground.data }, { on := 4, ground := Ground.data }], guard := none }) (v := ?_) rfl (by kernel_rfl) (by kernel_rfl) (by kernel_rfl) (fun _ _ _ h => h) (Or.inl ⟨by rfl, ?_⟩) hHeld ?_
  rotate_left
  · intro w hSw
    obtain ⟨q1, q2, q3, q4⟩ := hSw
    have hlk := q2.lookup_none (t := 51) pkLaw Tryz.underlying51 (zero_td _) HKL.out (tdL_no HJ.out)
    unfold Pk.v at hlk
    go_simp
    try with_reducible rfl
  try simp only [Act.put, List.setIfInBounds_toArray, List.set_cons_zero, List.set_cons_succ]
  refine wpAnyH_take (i := 6) (oi := { dst := some 15, op := Op.move (Operand.tmp 21), type := 94, pos := "adjin.go:85", after := #[{ on := 5, ground := Ground.data }], guard := none }) (v := ?_) rfl (by kernel_rfl) (by kernel_rfl) (by kernel_rfl) (fun _ _ _ h => h) (Or.inl ⟨by rfl, ?_⟩) hHeld ?_
  rotate_left
  · intro w hSw
    clear hSw
    go_simp
    try with_reducible rfl
  try simp only [Act.put, List.setIfInBounds_toArray, List.set_cons_zero, List.set_cons_succ]
  refine wpAnyH_take (i := 7) (oi := { dst := some 22, op := Op.extract (Operand.tmp 15) 0, type := 86, pos := "adjin.go:85", after := #[{ on := 6, ground := Ground.data }], guard := none }) (v := ?_) rfl (by kernel_rfl) (by kernel_rfl) (by kernel_rfl) (fun _ _ _ h => h) (Or.inl ⟨by rfl, ?_⟩) hHeld ?_
  rotate_left
  · intro w hSw
    clear hSw
    go_simp
    try with_reducible rfl
  try simp only [Act.put, List.setIfInBounds_toArray, List.set_cons_zero, List.set_cons_succ]
  refine wpAnyH_take (i := 8) (oi := { dst := some 23, op := Op.extract (Operand.tmp 15) 1, type := 4, pos := "adjin.go:85", after := #[{ on := 6, ground := Ground.data }, { on := 10, ground := Ground.gcOnly Departure.lateStores }], guard := none }) (v := ?_) rfl (by kernel_rfl) (by kernel_rfl) (by kernel_rfl) (fun _ _ _ h => h) (Or.inl ⟨by rfl, ?_⟩) hHeld ?_
  rotate_left
  · intro w hSw
    clear hSw
    go_simp
    try with_reducible rfl
  try simp only [Act.put, List.setIfInBounds_toArray, List.set_cons_zero, List.set_cons_succ]
  refine wpAnyH_ready (rs := [9]) (by kernel_rfl) (by simp) ?_
  refine AllReadyH.cons (o := { dst := some 6, op := Op.alloc 86, type := 0, pos := "adjin.go:85", after := #[], guard := none }) rfl (fun K hK => ?_) AllReadyH.nil
  go_simp
  skip
  refine hK.out _ _ (And.intro (hHeld.1.alloc _) (And.intro (hHeld.2.1.alloc _) (And.intro (hHeld.2.2.1.alloc _) (hHeld.2.2.2.alloc hHeld.2.2.2.size _)))) (fun hHeld => ?_)
  clear hK K
  try simp only [Act.put, List.setIfInBounds_toArray, List.set_cons_zero, List.set_cons_succ]
  refine wpAnyH_ready (rs := [10]) (by kernel_rfl) (by simp) ?_
  refine AllReadyH.cons (o := { dst := none, op := Op.store 86 (Operand.tmp 6) (Operand.tmp 22), type := 0, pos := "adjin.go:85", after := #[{ on := 9, ground := Ground.data }, { on := 7, ground := Ground.data }, { on := 0, ground := Ground.phase }, { on := 1, ground := Ground.phase }, { on := 2, ground := Ground.phase }, { on := 3, ground := Ground.phase }, { on := 4, ground := Ground.phase }, { on := 5, ground := Ground.phase }, { on := 6, ground := Ground.phase }, { on := 7, ground := Ground.phase }, { on := 8, ground := Ground.textOnly Departure.lateStores }, { on := 9, ground := Ground.phase }], guard := none }) rfl (fun K hK => ?_) AllReadyH.nil
  refine wp_store_row 86 (.tmp 6) (.tmp 22) rfl V.heap.size (Td.mk noPk 0 noAtr false).ar rfl rfl 86 _ (CellsAt.new V.drew _ _) (by rw [told_size]; rfl) rfl (told_ones _) ?_
  refine hK.out _ _ (And.intro (hHeld.1.row (grown_setRow' _ _ _) (Nat.ne_of_lt hbV)) (And.intro (hHeld.2.1.rowB _ (Nat.ne_of_lt hmV)) (And.intro (hHeld.2.2.1.row (grown_setRow' _ _ _) (Nat.ne_of_lt hsV)) (hHeld.2.2.2.grown (grown_setRow' _ _ _) hHeld.2.2.2.size (fun q hq => by cases hq; exact Nat.le_refl _))))) (fun hHeld => ?_)
  clear hK K
  try simp only [Act.put, List.setIfInBounds_toArray, List.set_cons_zero, List.set_cons_succ]
  refine wpAnyH_take (i := 11) (oi := { dst := some 7, op := Op.assign (Operand.tmp 23), type := 4, pos := "adjin.go:85", after := #[{ on := 8, ground := Ground.data }, { on := 10, ground := Ground.chain }, { on := 0, ground := Ground.phase }, { on := 1, ground := Ground.phase }, { on := 2, ground := Ground.phase }, { on := 3, ground := Ground.phase }, { on := 4, ground := Ground.phase }, { on := 5, ground := Ground.phase }, { on := 6, ground := Ground.phase }, { on := 7, ground := Ground.phase }, { on := 8, ground := Ground.phase }, { on := 9, ground := Ground.phase }, { on := 10, ground := Ground.phase }], guard := none }) (v := ?_) rfl (by kernel_rfl) (by kernel_rfl) (by kernel_rfl) (fun _ _ _ h => h) (Or.inl ⟨by rfl, ?_⟩) hHeld ?_
  rotate_left
  · intro w hSw
    clear hSw
    go_simp
    try with_reducible rfl
  try simp only [Act.put, List.setIfInBounds_toArray, List.set_cons_zero, List.set_cons_succ]
  refine wpAnyH_done (by kernel_rfl) ?_ _
  have HH := Lib.hid hHeld
  clear hHeld
  go_upto_region 5 with fail
  refine rb_name fun X hX => ?_
  have HRX : Hid (Below V.heap.size V X) := by rw [hX]; exact HH.out.2.2.2
  have HKX : Hid (CellsAt X (s + 1) #[.int .i64 k.fam, .int .u64 k.rd, .string k.addr, .int .i64 k.len, .int .u32 (k.id : Nat)] 83) := by rw [hX]; exact HH.out.2.2.1
  have HIX : Hid (RibAt X base b m most S) := HRV.out.below HRX.out
  have HBX : Hid (Below w.heap.size w X) := HBV.out.trans (HRX.out.mono HBV.out.size)
  have NS : s + 1 ≠ m := by have := HS.out; omega
  clear hX HH hsV hbV hmV
  have hmap : MapAt Tryz.prog 83 X.drew m (tdL S) := HIX.out.map.drew 1
  obtain ⟨W1, e1, g1, M1⟩ := hmap.delete_none (t := 51) (ty := 0) pkLaw Tryz.underlying51 HKL.out (tdL_no HJ.out)
  have G' : GrownX (fun i => i = m) w W1 := (GrownX.of_below (below_drewN HBX.out 1)).trans (GrownX.of_row g1 rfl)
  have hX1 : ∀ i, i = m → ∀ cs T fr, X.drew.heap[i]? ≠ some (.cells cs T fr) := fun i hi => by rw [hi]; exact (HIX.out.drew 1).mapBlk
  have hF : RibAt W1 base b m most S := ⟨(HIX.out.blk.drew 1).row g1 N1, M1, N1, fun p hp => HIX.out.ok p hp, fun p hp => AtO.keepX (((HIX.out.drew 1).own p hp)) (GrownX.of_row (X := fun i => i = m) g1 rfl) hX1, fun p hp => HIX.out.sz p hp, HIX.out.len, HIX.out.low⟩
  unfold Pk.v at e1
  have HF := Lib.hid hF
  have HG := Lib.hid G'
  have HI5 : Hid ((fun w' => CellsAt w' b #[.int .i64 most, .map (some m)] 53 ∧ (∃ L, MapAt Tryz.prog 83 w' m L) ∧ CellsAt w' (s + 1) #[.int .i64 k.fam, .int .u64 k.rd, .string k.addr, .int .i64 k.len, .int .u32 (k.id : Nat)] 83) X.drew) := ⟨HIX.out.blk.drew 1, ⟨_, hmap⟩, HKX.out.drew 1⟩
  clear hF G' hX1
  refine wp_region_held_drew (S := fun w' => CellsAt w' b #[.int .i64 most, .map (some m)] 53 ∧ (∃ L, MapAt Tryz.prog 83 w' m L) ∧ CellsAt w' (s + 1) #[.int .i64 k.fam, .int .u64 k.rd, .string k.addr, .int .i64 k.len, .int .u32 (k.id : Nat)] 83) (by kernel_rfl) (HI5.out) (fun hHeld => ?_)
  refine wpAnyH_take (i := 0) (oi := { dst := some 24, op := Op.move (Operand.tmp 0), type := 23, pos := "adjin.go:86", after := #[], guard := none }) (v := ?_) rfl (by kernel_rfl) (by kernel_rfl) (by kernel_rfl) (fun _ _ _ h => h) (Or.inl ⟨by rfl, ?_⟩) hHeld ?_
  rotate_left
  · intro w hSw
    clear hSw
    go_simp
    try with_reducible rfl
  try simp only [Act.put, List.setIfInBounds_toArray, List.set_cons_zero, List.set_cons_succ]
  refine wpAnyH_take (i := 1) (oi := { dst := some 25, op := Op.nilCheck (Operand.tmp 24), type := 0, pos := "adjin.go:86", after := #[{ on := 0, ground := Ground.data }], guard := none }) (v := ?_) rfl (by kernel_rfl) (by kernel_rfl) (by kernel_rfl) (fun _ _ _ h => h) (Or.inl ⟨by rfl, ?_⟩) hHeld ?_
  rotate_left
  · intro w hSw
    clear hSw
    go_simp
    try with_reducible rfl
  try simp only [Act.put, List.setIfInBounds_toArray, List.set_cons_zero, List.set_cons_succ]
  refine wpAnyH_take (i := 2) (oi := { dst := some 26, op := Op.fieldAddr 53 (Operand.tmp 25) 1, type := 0, pos := "adjin.go:86", after := #[{ on := 1, ground := Ground.data }], guard := none }) (v := ?_) rfl (by kernel_rfl) (by kernel_rfl) (by kernel_rfl) (fun _ _ _ h => h) (Or.inl ⟨by rfl, ?_⟩) hHeld ?_
  rotate_left
  · intro w hSw
    clear hSw
    go_simp
    try with_reducible rfl
  try simp only [Act.put, List.setIfInBounds_toArray, List.set_cons_zero, List.set_cons_succ]
  refine wpAnyH_take (i := 3) (oi := { dst := some 27, op := Op.load 51 (Operand.tmp 26), type := 51, pos := "adjin.go:86", after := #[{ on := 2, ground := Ground.data }], guard := none }) (v := ?_) rfl (by kernel_rfl) (by kernel_rfl) (by kernel_rfl) (fun _ _ _ h => h) (Or.inl ⟨by rfl, ?_⟩) hHeld ?_
  rotate_left
  · intro w hSw
    obtain ⟨q1, q2, q3⟩ := hSw
    obtain ⟨c0, c1⟩ := q1.c2
    obtain ⟨k0, k1, k2, k3, k4⟩ := q3.c5
    go_simp
    try with_reducible rfl
  try simp only [Act.put, List.setIfInBounds_toArray, List.set_cons_zero, List.set_cons_succ]
  refine wpAnyH_take (i := 4) (oi := { dst := some 28, op := Op.load 83 (Operand.tmp 5), type := 83, pos := "adjin.go:86", after := #[], guard := none }) (v := ?_) rfl (by kernel_rfl) (by kernel_rfl) (by kernel_rfl) (fun _ _ _ h => h) (Or.inl ⟨by rfl, ?_⟩) hHeld ?_
  rotate_left
  · intro w hSw
    obtain ⟨q1, q2, q3⟩ := hSw
    obtain ⟨c0, c1⟩ := q1.c2
    obtain ⟨k0, k1, k2, k3, k4⟩ := q3.c5
    go_simp
    try with_reducible rfl
  try simp only [Act.put, List.setIfInBounds_toArray, List.set_cons_zero, List.set_cons_succ]
  refine wpAnyH_ready (rs := [5]) (by kernel_rfl) (by simp) ?_
  refine AllReadyH.cons (o := { dst := none, op := Op.call { callee := Callee.builtin Builtin.delete, args := #[Operand.tmp 27, Operand.tmp 28], argTypes := #[51, 83] }, type := 0, pos := "adjin.go:86", after := #[{ on := 3, ground := Ground.data }, { on := 4, ground := Ground.data }], guard := none }) rfl (fun K hK => ?_) AllReadyH.nil
  go_simp
  skip
  refine hK.out _ _ (And.intro (hHeld.1.row g1 N1) (And.intro ⟨_, M1⟩ (hHeld.2.2.row g1 NS))) (fun hHeld => ?_)
  clear hK K
  try simp only [Act.put, List.setIfInBounds_toArray, List.set_cons_zero, List.set_cons_succ]
  refine wpAnyH_done (by kernel_rfl) ?_ _
  clear hHeld
  go_wp2_with fail
  go_ret
  exact ⟨rfl, HF.out, HG.out⟩
theorem rgone_any (w : World) (base b m : Nat) (most : Int) (S : List Td) (h : RibAt w base b m most S) (k : Pk) (label : Nat) (hk : k.Ok) :
    Calls Tryz.prog 17 #[.pointer (some ⟨b, 0, none⟩), .agg #[.int .i64 k.fam, .int .u64 k.rd, .string k.addr, .int .i64 k.len, .int .u32 (k.id : Nat), .int .u32 (label : Nat)]] w fun e w' => e = .returned (.bool (getC (S.map Td.c) k).isSome) ∧ RibM w' base b m most (delC (S.map Td.c) k) ∧ GrownX (fun i => i = m) w w' := by
  by_cases hx : ∃ p ∈ S, p.k = k
  · obtain ⟨p, hp, he⟩ := hx
    obtain ⟨j, hj⟩ := List.getElem?_of_mem hp
    refine (rgone_some w base b m most S h k label hk j p hj he).mono ?_
    rintro e w' ⟨h1, h2, h3⟩
    have hg := get_at h.keys hj
    rw [he] at hg
    exact ⟨by rw [hg]; exact h1, ⟨_, h2, map_erase h.keys hj he⟩, h3⟩
  · have hn : ∀ p ∈ S, p.k ≠ k := fun p hp e => hx ⟨p, hp, e⟩
    refine (rgone_none w base b m most S h k label hk hn).mono ?_
    rintro e w' ⟨h1, h2, h3⟩
    exact ⟨by rw [get_no hn]; exact h1, ⟨_, h2, by rw [delC_none (get_no hn)]⟩, h3⟩
end Go.Proofs.YtldpcliahfiloaaGreat
