/-
  Several texts in one.
-/
import Derived.Test.YtojiieghjhjoaaaGreatKN33
set_option linter.unusedVariables false
set_option linter.unusedSimpArgs false
namespace Go.Proofs.YtojiieghjhjoaaaGreat
open Go.RowKit Go.MapKept Go.Shelf
open Go.Lib hiding intOf

/-- attributes whose lists a call made, the clusters in a block of their own -/
structure ClT (w : World) (base : Nat) (a : Atr) : Prop where
  own : AtO w base a
  apart : ∀ k, (Value.slice a.kA a.clus.length a.kC).ownBlock = some k → (Value.slice a.mA a.comms.length a.mC).ownBlock ≠ some k ∧ ∀ s ∈ a.segs, (Value.slice s.A s.as_.length s.cap).ownBlock ≠ some k
set_option maxRecDepth 100000 in
set_option maxHeartbeats 16000000 in
theorem copyT_any (a : Atr) (w : World) (h : AtrOk w a) (hz : AtrSz a.c) :
    Calls Tryz.prog 42 #[.agg a.ar] w fun e w' => (∃ a' : Atr, e = .returned (.agg a'.ar) ∧ ClT w' w.heap.size a' ∧ a'.c = a.c) ∧ Below w.heap.size w w' := by
  have HA := Lib.hid h
  have hz1 : a.comms.length * 4 ≤ 140737488355328 := by have : a.comms.length * 4 ≤ 140737488351232 := hz.m; omega
  have hz2 : a.exts.length * 8 ≤ 140737488355328 := by have : a.exts.length * 8 ≤ 140737488351232 := hz.x; omega
  have hz3 : a.larges.length * 12 ≤ 140737488355328 := by have : a.larges.length * 12 ≤ 140737488351232 := hz.l; omega
  have hz4 : a.clus.length * 4 ≤ 140737488355328 := by have : a.clus.length * 4 ≤ 140737488351232 := hz.k; omega
  have hzp : a.segs.length * 32 ≤ 140737488355328 := by
    have h1 := hz.p
    have h2 : a.c.path.length = a.segs.length := by show (a.segs.map Sg.c).length = _; simp
    rw [h2] at h1
    omega
  have HZS : Hid (∀ s ∈ a.segs, s.as_.length * 4 ≤ 140737488355328) := fun s hs => by
    have : s.c.2.length * 4 ≤ 140737488351232 := hz.s s.c (List.mem_map_of_mem hs)
    have h2 : s.c.2.length = s.as_.length := rfl
    omega
  have HCS := Lib.hid clone_segs
  have HCM := Lib.hid clone_u32
  have HCX := Lib.hid clone_u64
  have HCL := Lib.hid clone_lgs
  clear h hz
  obtain ⟨V, hV⟩ : ∃ V, V = (w.alloc (.cells a.ar 33)).alloc (.cells noAtr.ar 33) := ⟨_, rfl⟩
  have HC0 : Hid (CellsAt V w.heap.size a.ar 33) := by rw [hV]; exact (CellsAt.new _ _ _).alloc _
  have HD0 : Hid (CellsAt V (w.heap.size + 1) noAtr.ar 33) := by
    rw [hV]
    have h := CellsAt.new (w.alloc (.cells a.ar 33)) noAtr.ar 33
    rwa [show (w.alloc (.cells a.ar 33)).heap.size = w.heap.size + 1 by simp] at h
  have HB0 : Hid (Below w.heap.size w V) := by rw [hV]; exact ((Below.refl _ _).alloc (Nat.le_refl _) _).alloc (by simp) _
  have hVs : V.heap.size = w.heap.size + 1 + 1 := by rw [hV]; simp
  have HVS := Lib.hid hVs
  clear hVs
  go_enter Tryz.func42, Tryz.ntmps42
  go_upto_region 1 with fail
  change Code.wp _ _ _ _ ((w.alloc (.cells a.ar 33)).alloc (.cells noAtr.ar 33))
  rw [← hV]
  clear hV
  obtain ⟨c0, c1, c2, c3, c4, c5, c6, c7, c8, c9, c10, c11, c12, c13, c14, c15⟩ := atr_cells HC0.out
  go_wp2_with fail
  refine (HCS.out a.pA a.pC a.segs _ (HA.out.below HB0.out (Nat.le_refl _)).prd (Nat.le_trans HA.out.plen HA.out.pcap) hzp).mono ?_
  rintro e w1 ⟨⟨A1, p1, rfl, ho1⟩, hb1⟩
  have HP1 : Hid (CpP w1 (w.heap.size + 1 + 1) A1 a.segs.length p1 a.segs a.segs 0) := ⟨rfl, by have h := ho1; rwa [HVS.out] at h, rfl, fun j s hj _ => by omega, fun j _ => rfl⟩
  have HC1 : Hid (CellsAt w1 w.heap.size a.ar 33) := HC0.out.below hb1 HC0.out.lt
  have HD1 : Hid (CellsAt w1 (w.heap.size + 1) noAtr.ar 33) := HD0.out.below hb1 HD0.out.lt
  have HB1 : Hid (Below w.heap.size w w1) := HB0.out.trans (hb1.mono HB0.out.size)
  have HW1 : Hid (w.heap.size + 1 + 1 ≤ w1.heap.size) := by show _ ≤ _; rw [← HVS.out]; exact hb1.size
  clear ho1 hb1 HC0 HD0 HB0 c0 c1 c2 c3 c4 c5 c6 c7 c8 c9 c10 c11 c12 c13 c14 c15
  obtain ⟨c0, c1, c2, c3, c4, c5, c6, c7, c8, c9, c10, c11, c12, c13, c14, c15⟩ := atr_cells HC1.out
  have ef := HC1.out.unfrz 1
  obtain ⟨a1, ha1⟩ : ∃ b : Atr, b = { a with pA := A1, pC := p1 } := ⟨_, rfl⟩
  have HE1 : Hid (a1 = { a with pA := A1, pC := p1 }) := ha1
  have HCS1 : Hid (CellsAt (w1.setCell ⟨w.heap.size, 1, none⟩ (.slice A1 a.segs.length p1)) w.heap.size a1.ar 33) := by
    have h := HC1.out.setAt 1 (.slice A1 a.segs.length p1)
    show CellsAt _ _ _ _
    rw [ha1]
    exact h
  have hl1 : a1.segs.length = a.segs.length := by rw [ha1]
  have hA1 : a1.pA = A1 := by rw [ha1]
  have hC1 : a1.pC = p1 := by rw [ha1]
  clear ha1
  go_upto_region 2 with fail
  obtain ⟨S1, hS1⟩ : ∃ S, S = w1.setCell ⟨w.heap.size, 1, none⟩ (.slice A1 a.segs.length p1) := ⟨_, rfl⟩
  have HP : Hid (CpP S1 (w.heap.size + 1 + 1) A1 a.segs.length p1 a.segs a.segs 0) := by rw [hS1]; exact HP1.out.keep (fun q h1 h2 => Below.heap_setCell w1 _ _ q (by show q ≠ w.heap.size; omega))
  have HC : Hid (CellsAt S1 w.heap.size a1.ar 33) := by rw [hS1]; exact HCS1.out
  have HD : Hid (CellsAt S1 (w.heap.size + 1) noAtr.ar 33) := by rw [hS1]; exact (Below.heap_setCell w1 _ _ _ (by show w.heap.size + 1 ≠ w.heap.size; omega)).trans HD1.out
  have HB : Hid (Below w.heap.size w S1) := by rw [hS1]; exact HB1.out.setCell (Nat.le_refl _) _
  have HW : Hid (w.heap.size + 1 + 1 ≤ S1.heap.size) := by show _ ≤ _; rw [hS1]; have := HW1.out; simpa [World.setCell] using this
  rw [← hS1]
  clear hS1 HP1 HC1 HD1 HB1 HW1 HCS1 c0 c1 c2 c3 c4 c5 c6 c7 c8 c9 c10 c11 c12 c13 c14 c15 ef
  obtain ⟨c0, c1, c2, c3, c4, c5, c6, c7, c8, c9, c10, c11, c12, c13, c14, c15⟩ := atr_cells HC.out
  rw [hA1, hC1, hl1] at c1
  have HL1 := Lib.hid hl1
  have HA1 := Lib.hid hA1
  have HC1' := Lib.hid hC1
  clear hl1 hA1 hC1
  have hpl : a.segs.length ≤ p1 ∧ p1 ≤ maxLen := by
    have h := OwnL.rd Sg.cs_len HP.out.own
    obtain ⟨A', c', hv, _, h3, h4⟩ := h
    injection hv with e1 e2 e3
    subst e3
    exact ⟨h3, h4⟩
  obtain ⟨hpl1, hpl2⟩ := hpl
  unfold maxLen at hpl2
  go_wp2_with fail
  clear c0 c1 c2 c3 c4 c5 c6 c7 c8 c9 c10 c11 c12 c13 c14 c15
  go_loopw [11] (fun i wr => ∃ (k : Nat) (segs : List Sg), k ≤ a.segs.length ∧ i = .int .i64 k ∧ Hid (CpP wr (w.heap.size + 1 + 1) A1 a.segs.length p1 a.segs segs k) ∧ Hid (CellsAt wr w.heap.size a1.ar 33) ∧ Hid (CellsAt wr (w.heap.size + 1) noAtr.ar 33) ∧ Hid (Below w.heap.size w wr) ∧ Hid (w.heap.size + 1 + 1 ≤ wr.heap.size)) (fun i _ => a.segs.length + 1 - (intOf i).toNat)
  case atStart => exact ⟨0, a.segs, by omega, rfl, HP.out, HC.out, HD.out, HB.out, HW.out⟩
  case round =>
    clear HP HC HD HB HW
    obtain ⟨k, segs, hk, rfl, HP, HC, HD, HB, HW⟩ := hrel
    obtain ⟨c0, c1, c2, c3, c4, c5, c6, c7, c8, c9, c10, c11, c12, c13, c14, c15⟩ := atr_cells HC.out
    rw [HA1.out, HC1'.out, HL1.out] at c1
    by_cases hlt : k < a.segs.length
    · obtain ⟨s, hs⟩ : ∃ s, segs[k]? = some s := ⟨segs[k]'(by rw [HP.out.len]; exact hlt), List.getElem?_eq_getElem _⟩
      have hso : a.segs[k]? = some s := by rw [← HP.out.left k (Nat.le_refl _)]; exact hs
      have HSS := Lib.hid ((HA.out.segs s (List.mem_of_getElem? hso)).below HB.out (Nat.le_refl _))
      have HZ1 := Lib.hid (HZS.out s (List.mem_of_getElem? hso))
      have HSX := Lib.hid hs
      have hown2 := HP.out.own
      unfold OwnL at hown2
      rw [HP.out.len] at hown2
      obtain ⟨g, cap, hv, hgb, hgl, hn1, hn2, hcell, hfrz⟩ := OwnM.cells hown2 (by omega)
      injection hv with e1 e2 e3
      subst e1
      subst e3
      have q1 := hcell (k * 2 + 1) _ (flat_at Sg.cs_len segs k s 1 (.slice s.A s.as_.length s.cap) hs rfl)
      have qf := hfrz (k * 2 + 1) (by omega)
      have HQF := Lib.hid hfrz
      have HCE := Lib.hid hcell
      have hk0 : 0 ≤ (k : Int) := by omega
      have hki : (k : Int) < (a.segs.length : Int) := by omega
      have HBD := Lib.hid (below_drewN HB.out 1)
      clear hs hso hown2 hcell hfrz
      go_upto_region 5 with fail
      refine wp_region_held_drew (S := fun w' => CellsAt w' w.heap.size a1.ar 33 ∧ Below w.heap.size w w') (by kernel_rfl) (⟨HC.out.drew 1, HBD.out⟩) (fun hHeld => ?_)
      refine wpAnyH_take (i := 0) (oi := { dst := some 14, op := Op.fieldAddr 33 (Operand.tmp 1) 1, type := 0, pos := "attr.go:52", after := #[], guard := none }) (v := ?_) rfl (by kernel_rfl) (by kernel_rfl) (by kernel_rfl) (fun _ _ _ h => h) (Or.inl ⟨by rfl, ?_⟩) hHeld ?_
      rotate_left
      · intro w hSw
        clear hSw
        go_simp
        try with_reducible rfl
      try simp only [Act.put, List.setIfInBounds_toArray, List.set_cons_zero, List.set_cons_succ]
      refine wpAnyH_take (i := 1) (oi := { dst := some 15, op := Op.load 28 (Operand.tmp 14), type := 28, pos := "attr.go:52", after := #[{ on := 0, ground := Ground.data }], guard := none }) (v := ?_) rfl (by kernel_rfl) (by kernel_rfl) (by kernel_rfl) (fun _ _ _ h => h) (Or.inl ⟨by rfl, ?_⟩) hHeld ?_
      rotate_left
      · intro w hSw
        obtain ⟨c0, c1, c2, c3, c4, c5, c6, c7, c8, c9, c10, c11, c12, c13, c14, c15⟩ := atr_cells hSw.1
        rw [HA1.out, HC1'.out, HL1.out] at c1
        go_simp
        try with_reducible rfl
      try simp only [Act.put, List.setIfInBounds_toArray, List.set_cons_zero, List.set_cons_succ]
      refine wpAnyH_take (i := 2) (oi := { dst := some 16, op := Op.move (Operand.tmp 3), type := 3, pos := "attr.go:52", after := #[], guard := none }) (v := ?_) rfl (by kernel_rfl) (by kernel_rfl) (by kernel_rfl) (fun _ _ _ h => h) (Or.inl ⟨by rfl, ?_⟩) hHeld ?_
      rotate_left
      · intro w hSw
        clear hSw
        go_simp
        try with_reducible rfl
      try simp only [Act.put, List.setIfInBounds_toArray, List.set_cons_zero, List.set_cons_succ]
      refine wpAnyH_take (i := 3) (oi := { dst := some 17, op := Op.fieldAddr 33 (Operand.tmp 1) 1, type := 0, pos := "attr.go:52", after := #[], guard := none }) (v := ?_) rfl (by kernel_rfl) (by kernel_rfl) (by kernel_rfl) (fun _ _ _ h => h) (Or.inl ⟨by rfl, ?_⟩) hHeld ?_
      rotate_left
      · intro w hSw
        clear hSw
        go_simp
        try with_reducible rfl
      try simp only [Act.put, List.setIfInBounds_toArray, List.set_cons_zero, List.set_cons_succ]
      refine wpAnyH_take (i := 4) (oi := { dst := some 18, op := Op.load 28 (Operand.tmp 17), type := 28, pos := "attr.go:52", after := #[{ on := 3, ground := Ground.data }], guard := none }) (v := ?_) rfl (by kernel_rfl) (by kernel_rfl) (by kernel_rfl) (fun _ _ _ h => h) (Or.inl ⟨by rfl, ?_⟩) hHeld ?_
      rotate_left
      · intro w hSw
        obtain ⟨c0, c1, c2, c3, c4, c5, c6, c7, c8, c9, c10, c11, c12, c13, c14, c15⟩ := atr_cells hSw.1
        rw [HA1.out, HC1'.out, HL1.out] at c1
        go_simp
        try with_reducible rfl
      try simp only [Act.put, List.setIfInBounds_toArray, List.set_cons_zero, List.set_cons_succ]
      refine wpAnyH_take (i := 5) (oi := { dst := some 19, op := Op.move (Operand.tmp 3), type := 3, pos := "attr.go:52", after := #[], guard := none }) (v := ?_) rfl (by kernel_rfl) (by kernel_rfl) (by kernel_rfl) (fun _ _ _ h => h) (Or.inl ⟨by rfl, ?_⟩) hHeld ?_
      rotate_left
      · intro w hSw
        clear hSw
        go_simp
        try with_reducible rfl
      try simp only [Act.put, List.setIfInBounds_toArray, List.set_cons_zero, List.set_cons_succ]
      refine wpAnyH_take (i := 6) (oi := { dst := some 20, op := Op.indexAddr 28 (Operand.tmp 18) (Operand.tmp 19), type := 0, pos := "attr.go:52", after := #[{ on := 4, ground := Ground.data }, { on := 5, ground := Ground.data }], guard := none }) (v := ?_) rfl (by kernel_rfl) (by kernel_rfl) (by kernel_rfl) (fun _ _ _ h => h) (Or.inl ⟨by rfl, ?_⟩) hHeld ?_
      rotate_left
      · intro w hSw
        clear hSw
        go_simp
        try with_reducible rfl
      try simp only [Act.put, List.setIfInBounds_toArray, List.set_cons_zero, List.set_cons_succ]
      refine wpAnyH_take (i := 7) (oi := { dst := some 21, op := Op.fieldAddr 67 (Operand.tmp 20) 1, type := 0, pos := "attr.go:52", after := #[{ on := 6, ground := Ground.data }], guard := none }) (v := ?_) rfl (by kernel_rfl) (by kernel_rfl) (by kernel_rfl) (fun _ _ _ h => h) (Or.inl ⟨by rfl, ?_⟩) hHeld ?_
      rotate_left
      · intro w hSw
        clear hSw
        go_simp
        try with_reducible rfl
      try simp only [Act.put, List.setIfInBounds_toArray, List.set_cons_zero, List.set_cons_succ]
      refine wpAnyH_ready (rs := [8]) (by kernel_rfl) (by simp) ?_
      refine AllReadyH.cons (o := { dst := some 22, op := Op.load 29 (Operand.tmp 21), type := 29, pos := "attr.go:52", after := #[{ on := 7, ground := Ground.data }], guard := none }) rfl (fun K hK => ?_) AllReadyH.nil
      go_simp
      skip
      refine hK.out _ _ (hHeld) (fun hHeld => ?_)
      clear hK K
      try simp only [Act.put, List.setIfInBounds_toArray, List.set_cons_zero, List.set_cons_succ]
      refine wpAnyH_ready (rs := [9]) (by kernel_rfl) (by simp) ?_
      refine AllReadyH.cons (o := { dst := some 23, op := Op.call { callee := Callee.value (Operand.func 74), args := #[Operand.tmp 22], argTypes := #[29] }, type := 29, pos := "attr.go:52", after := #[{ on := 8, ground := Ground.data }], guard := none }) rfl (fun K hK => ?_) AllReadyH.nil
      go_simp
      refine (HCM.out s.A s.cap s.as_ _ (HSS.out.below (below_drewN (Below.refl _ _) 1) (Nat.le_refl _)).rd (Nat.le_trans HSS.out.len HSS.out.cap) HZ1.out).mono ?_
      rintro e w2 ⟨⟨A2, c2, rfl, ho2⟩, hb2⟩
      replace hb2 : Below wr.heap.size wr w2 := (below_drewN (Below.refl _ _) 1).trans hb2
      have HO2 : Hid (OwnL w2 (w.heap.size + 1 + 1) 22 1 u1 (.slice A2 s.as_.length c2) s.as_) := OwnM.lower ho2 HW.out
      have HP2 : Hid (CpP w2 (w.heap.size + 1 + 1) (some ⟨g, 0, none⟩) a.segs.length p1 a.segs segs k) := HP.out.keep (fun q h1 h2 => hb2.block q h2)
      have HC2 : Hid (CellsAt w2 w.heap.size a1.ar 33) := HC.out.below hb2 HC.out.lt
      have HD2 : Hid (CellsAt w2 (w.heap.size + 1) noAtr.ar 33) := HD.out.below hb2 HD.out.lt
      have HW2 : Hid (w.heap.size + 1 + 1 ≤ w2.heap.size) := Nat.le_trans HW.out hb2.size
      have HBB2 : Hid (Below w.heap.size w w2) := HB.out.trans (hb2.mono HB.out.size)
      have q2 : w2.cell? ⟨g, k * 2 + 1, none⟩ = some (.slice s.A s.as_.length s.cap) := (hb2.cell (p := ⟨g, _, none⟩) hgl).trans q1
      have qf2 : w2.frozen? ⟨g, k * 2 + 1, none⟩ = false := by
        have hblk := hb2.block g hgl
        simp only [World.frozen?] at qf ⊢
        rw [hblk]
        exact qf
      clear ho2 hb2 hHeld
      refine hK.out _ _ (⟨HC2.out, HBB2.out⟩) (fun hHeld => ?_)
      clear hK K
      try simp only [Act.put, List.setIfInBounds_toArray, List.set_cons_zero, List.set_cons_succ]
      refine wpAnyH_take (i := 10) (oi := { dst := some 24, op := Op.indexAddr 28 (Operand.tmp 15) (Operand.tmp 16), type := 0, pos := "attr.go:52", after := #[{ on := 1, ground := Ground.data }, { on := 2, ground := Ground.data }, { on := 0, ground := Ground.phase }, { on := 1, ground := Ground.phase }, { on := 2, ground := Ground.phase }, { on := 3, ground := Ground.phase }, { on := 4, ground := Ground.phase }, { on := 5, ground := Ground.phase }, { on := 6, ground := Ground.phase }, { on := 7, ground := Ground.phase }, { on := 8, ground := Ground.phase }, { on := 9, ground := Ground.phase }], guard := none }) (v := ?_) rfl (by kernel_rfl) (by kernel_rfl) (by kernel_rfl) (fun _ _ _ h => h) (Or.inl ⟨by rfl, ?_⟩) hHeld ?_
      rotate_left
      · intro w hSw
        clear hSw
        go_simp
        try with_reducible rfl
      try simp only [Act.put, List.setIfInBounds_toArray, List.set_cons_zero, List.set_cons_succ]
      refine wpAnyH_take (i := 11) (oi := { dst := some 25, op := Op.fieldAddr 67 (Operand.tmp 24) 1, type := 0, pos := "attr.go:52", after := #[{ on := 10, ground := Ground.data }, { on := 0, ground := Ground.phase }, { on := 1, ground := Ground.phase }, { on := 2, ground := Ground.phase }, { on := 3, ground := Ground.phase }, { on := 4, ground := Ground.phase }, { on := 5, ground := Ground.phase }, { on := 6, ground := Ground.phase }, { on := 7, ground := Ground.phase }, { on := 8, ground := Ground.phase }, { on := 9, ground := Ground.phase }], guard := none }) (v := ?_) rfl (by kernel_rfl) (by kernel_rfl) (by kernel_rfl) (fun _ _ _ h => h) (Or.inl ⟨by rfl, ?_⟩) hHeld ?_
      rotate_left
      · intro w hSw
        clear hSw
        go_simp
        try with_reducible rfl
      try simp only [Act.put, List.setIfInBounds_toArray, List.set_cons_zero, List.set_cons_succ]
      refine wpAnyH_ready (rs := [12]) (by kernel_rfl) (by simp) ?_
      refine AllReadyH.cons (o := { dst := none, op := Op.store 29 (Operand.tmp 25) (Operand.tmp 23), type := 0, pos := "attr.go:52", after := #[{ on := 11, ground := Ground.data }, { on := 9, ground := Ground.data }, { on := 9, ground := Ground.chain }, { on := 0, ground := Ground.phase }, { on := 1, ground := Ground.phase }, { on := 2, ground := Ground.phase }, { on := 3, ground := Ground.phase }, { on := 4, ground := Ground.phase }, { on := 5, ground := Ground.phase }, { on := 6, ground := Ground.phase }, { on := 7, ground := Ground.phase }, { on := 8, ground := Ground.phase }, { on := 9, ground := Ground.phase }], guard := none }) rfl (fun K hK => ?_) AllReadyH.nil
      go_simp
      have HPF : Hid (CpP (w2.setCell ⟨g, k * 2 + 1, none⟩ (.slice A2 s.as_.length c2)) (w.heap.size + 1 + 1) (some ⟨g, 0, none⟩) a.segs.length p1 a.segs (segs.set k ⟨s.kind, A2, s.as_, c2⟩) (k + 1)) := HP2.out.step HSX.out hlt A2 c2 HO2.out
      have HCF : Hid (CellsAt (w2.setCell ⟨g, k * 2 + 1, none⟩ (.slice A2 s.as_.length c2)) w.heap.size a1.ar 33) := (Below.heap_setCell w2 _ _ _ (by show w.heap.size ≠ g; omega)).trans HC2.out
      have HDF : Hid (CellsAt (w2.setCell ⟨g, k * 2 + 1, none⟩ (.slice A2 s.as_.length c2)) (w.heap.size + 1) noAtr.ar 33) := (Below.heap_setCell w2 _ _ _ (by show w.heap.size + 1 ≠ g; omega)).trans HD2.out
      have HWF : Hid (w.heap.size + 1 + 1 ≤ (w2.setCell ⟨g, k * 2 + 1, none⟩ (.slice A2 s.as_.length c2)).heap.size) := by show _ ≤ _; have := HW2.out; simpa [World.setCell] using this
      refine hK.out _ _ (⟨HCF.out, HBB2.out.setCell (by show w.heap.size ≤ g; omega) _⟩) (fun hHeld => ?_)
      clear hK K
      try simp only [Act.put, List.setIfInBounds_toArray, List.set_cons_zero, List.set_cons_succ]
      refine wpAnyH_done (by kernel_rfl) ?_ _
      have HE := Lib.hid hHeld
      clear hHeld
      go_wp2_with fail
      exact ⟨⟨k + 1, _, by omega, by go_num, HPF.out, HCF.out, HDF.out, HE.out.2, HWF.out⟩, by simp [intOf]; omega⟩
    · obtain rfl : k = a.segs.length := by omega
      have HBD := Lib.hid (below_drewN HB.out 1)
      obtain ⟨n7, hn7⟩ : ∃ n : Nat, n = 7 := ⟨7, rfl⟩
      clear hn7 n7
      have e10 : a1.mA = a.mA ∧ a1.comms = a.comms ∧ a1.mC = a.mC ∧ a1.xA = a.xA ∧ a1.exts = a.exts ∧ a1.xC = a.xC ∧ a1.lA = a.lA ∧ a1.larges = a.larges ∧ a1.lC = a.lC ∧ a1.kA = a.kA ∧ a1.clus = a.clus ∧ a1.kC = a.kC := by rw [HE1.out]; exact ⟨rfl, rfl, rfl, rfl, rfl, rfl, rfl, rfl, rfl, rfl, rfl, rfl⟩
      obtain ⟨x1, x2, x3, x4, x5, x6, x7, x8, x9, x10, x11, x12⟩ := e10
      rw [x1, x2, x3] at c10
      rw [x4, x5, x6] at c11
      rw [x7, x8, x9] at c12
      rw [x10, x11, x12] at c15
      have X10 : Hid (a1.mA = a.mA) ∧ Hid (a1.comms = a.comms) ∧ Hid (a1.mC = a.mC) ∧ True := ⟨x1, x2, x3, trivial⟩
      have X11 : Hid (a1.xA = a.xA) ∧ Hid (a1.exts = a.exts) ∧ Hid (a1.xC = a.xC) ∧ True := ⟨x4, x5, x6, trivial⟩
      have X12 : Hid (a1.lA = a.lA) ∧ Hid (a1.larges = a.larges) ∧ Hid (a1.lC = a.lC) ∧ True := ⟨x7, x8, x9, trivial⟩
      have X15 : Hid (a1.kA = a.kA) ∧ Hid (a1.clus = a.clus) ∧ Hid (a1.kC = a.kC) ∧ True := ⟨x10, x11, x12, trivial⟩
      clear x1 x2 x3 x4 x5 x6 x7 x8 x9 x10 x11 x12
      go_upto_region 7 with fail
      refine wp_region_U (fun i => i == 13 || i == 15 || i == 17 || i == 19) (fun w' => CellsAt w' w.heap.size a1.ar 33 ∧ Below w.heap.size w w') (by kernel_rfl) (⟨HC.out.drew 1, HBD.out⟩) (fun hHeld => ?_)
      refine wpAnyU_takeP (i := 0) (oi := { dst := some 27, op := Op.fieldAddr 33 (Operand.tmp 1) 10, type := 0, pos := "attr.go:54", after := #[], guard := none }) (v := ?_) rfl (by rfl) (by kernel_rfl) (by kernel_rfl) (by kernel_rfl) (fun _ _ _ h => h) (Or.inl ⟨by rfl, ?_⟩) hHeld ?_
      rotate_left
      · intro w hSw
        clear hSw
        go_simp
        try with_reducible rfl
      try simp only [Act.put, List.setIfInBounds_toArray, List.set_cons_zero, List.set_cons_succ]
      refine wpAnyU_take (i := 1) (oi := { dst := some 28, op := Op.load 29 (Operand.tmp 27), type := 29, pos := "attr.go:54", after := #[{ on := 0, ground := Ground.data }], guard := none }) (v := ?_) rfl (by rfl) (by kernel_rfl) (by kernel_rfl) (by kernel_rfl) (by kernel_rfl) (fun _ _ _ h => h) (Or.inl ⟨by rfl, ?_⟩) hHeld ?_
      rotate_left
      · intro w hSw
        obtain ⟨c0, c1, c2, c3, c4, c5, c6, c7, c8, c9, c10, c11, c12, c13, c14, c15⟩ := atr_cells hSw.1
        rw [X10.1.out, X10.2.1.out, X10.2.2.1.out] at c10
        rw [X11.1.out, X11.2.1.out, X11.2.2.1.out] at c11
        rw [X12.1.out, X12.2.1.out, X12.2.2.1.out] at c12
        rw [X15.1.out, X15.2.1.out, X15.2.2.1.out] at c15
        go_simp
        try with_reducible rfl
      try simp only [Act.put, List.setIfInBounds_toArray, List.set_cons_zero, List.set_cons_succ]
      refine wpAnyU_takeP (i := 3) (oi := { dst := some 30, op := Op.fieldAddr 33 (Operand.tmp 1) 11, type := 0, pos := "attr.go:54", after := #[], guard := none }) (v := ?_) rfl (by rfl) (by kernel_rfl) (by kernel_rfl) (by kernel_rfl) (fun _ _ _ h => h) (Or.inl ⟨by rfl, ?_⟩) hHeld ?_
      rotate_left
      · intro w hSw
        clear hSw
        go_simp
        try with_reducible rfl
      try simp only [Act.put, List.setIfInBounds_toArray, List.set_cons_zero, List.set_cons_succ]
      refine wpAnyU_take (i := 4) (oi := { dst := some 31, op := Op.load 30 (Operand.tmp 30), type := 30, pos := "attr.go:54", after := #[{ on := 3, ground := Ground.data }], guard := none }) (v := ?_) rfl (by rfl) (by kernel_rfl) (by kernel_rfl) (by kernel_rfl) (by kernel_rfl) (fun _ _ _ h => h) (Or.inl ⟨by rfl, ?_⟩) hHeld ?_
      rotate_left
      · intro w hSw
        obtain ⟨c0, c1, c2, c3, c4, c5, c6, c7, c8, c9, c10, c11, c12, c13, c14, c15⟩ := atr_cells hSw.1
        rw [X10.1.out, X10.2.1.out, X10.2.2.1.out] at c10
        rw [X11.1.out, X11.2.1.out, X11.2.2.1.out] at c11
        rw [X12.1.out, X12.2.1.out, X12.2.2.1.out] at c12
        rw [X15.1.out, X15.2.1.out, X15.2.2.1.out] at c15
        go_simp
        try with_reducible rfl
      try simp only [Act.put, List.setIfInBounds_toArray, List.set_cons_zero, List.set_cons_succ]
      refine wpAnyU_takeP (i := 6) (oi := { dst := some 33, op := Op.fieldAddr 33 (Operand.tmp 1) 12, type := 0, pos := "attr.go:54", after := #[], guard := none }) (v := ?_) rfl (by rfl) (by kernel_rfl) (by kernel_rfl) (by kernel_rfl) (fun _ _ _ h => h) (Or.inl ⟨by rfl, ?_⟩) hHeld ?_
      rotate_left
      · intro w hSw
        clear hSw
        go_simp
        try with_reducible rfl
      try simp only [Act.put, List.setIfInBounds_toArray, List.set_cons_zero, List.set_cons_succ]
      refine wpAnyU_take (i := 7) (oi := { dst := some 34, op := Op.load 31 (Operand.tmp 33), type := 31, pos := "attr.go:54", after := #[{ on := 6, ground := Ground.data }], guard := none }) (v := ?_) rfl (by rfl) (by kernel_rfl) (by kernel_rfl) (by kernel_rfl) (by kernel_rfl) (fun _ _ _ h => h) (Or.inl ⟨by rfl, ?_⟩) hHeld ?_
      rotate_left
      · intro w hSw
        obtain ⟨c0, c1, c2, c3, c4, c5, c6, c7, c8, c9, c10, c11, c12, c13, c14, c15⟩ := atr_cells hSw.1
        rw [X10.1.out, X10.2.1.out, X10.2.2.1.out] at c10
        rw [X11.1.out, X11.2.1.out, X11.2.2.1.out] at c11
        rw [X12.1.out, X12.2.1.out, X12.2.2.1.out] at c12
        rw [X15.1.out, X15.2.1.out, X15.2.2.1.out] at c15
        go_simp
        try with_reducible rfl
      try simp only [Act.put, List.setIfInBounds_toArray, List.set_cons_zero, List.set_cons_succ]
      refine wpAnyU_takeP (i := 9) (oi := { dst := some 36, op := Op.fieldAddr 33 (Operand.tmp 1) 15, type := 0, pos := "attr.go:54", after := #[], guard := none }) (v := ?_) rfl (by rfl) (by kernel_rfl) (by kernel_rfl) (by kernel_rfl) (fun _ _ _ h => h) (Or.inl ⟨by rfl, ?_⟩) hHeld ?_
      rotate_left
      · intro w hSw
        clear hSw
        go_simp
        try with_reducible rfl
      try simp only [Act.put, List.setIfInBounds_toArray, List.set_cons_zero, List.set_cons_succ]
      refine wpAnyU_take (i := 10) (oi := { dst := some 37, op := Op.load 29 (Operand.tmp 36), type := 29, pos := "attr.go:54", after := #[{ on := 9, ground := Ground.data }], guard := none }) (v := ?_) rfl (by rfl) (by kernel_rfl) (by kernel_rfl) (by kernel_rfl) (by kernel_rfl) (fun _ _ _ h => h) (Or.inl ⟨by rfl, ?_⟩) hHeld ?_
      rotate_left
      · intro w hSw
        obtain ⟨c0, c1, c2, c3, c4, c5, c6, c7, c8, c9, c10, c11, c12, c13, c14, c15⟩ := atr_cells hSw.1
        rw [X10.1.out, X10.2.1.out, X10.2.2.1.out] at c10
        rw [X11.1.out, X11.2.1.out, X11.2.2.1.out] at c11
        rw [X12.1.out, X12.2.1.out, X12.2.2.1.out] at c12
        rw [X15.1.out, X15.2.1.out, X15.2.2.1.out] at c15
        go_simp
        try with_reducible rfl
      try simp only [Act.put, List.setIfInBounds_toArray, List.set_cons_zero, List.set_cons_succ]
      refine wpAnyU_step (i := 2) (o := { dst := some 29, op := Op.call { callee := Callee.value (Operand.func 74), args := #[Operand.tmp 28], argTypes := #[29] }, type := 29, pos := "attr.go:54", after := #[{ on := 1, ground := Ground.data }], guard := none }) (by kernel_rfl) rfl (by rfl) (fun K hK => ?_)
      go_simp
      refine (HCM.out a.mA a.mC a.comms _ (HA.out.below hHeld.2 (Nat.le_refl _)).mrd (Nat.le_trans HA.out.mlen HA.out.mcap) hz1).mono ?_
      rintro e y0 ⟨⟨A2, p2, rfl, ho⟩, hb⟩
      replace hb : Below wr.heap.size wr y0 := (below_drewN (Below.refl _ _) 1).trans hb
      have HB2 : Hid (Below w.heap.size w y0) := HB.out.trans (hb.mono HB.out.size)
      have HW2 : Hid (w.heap.size + 1 + 1 ≤ y0.heap.size) := Nat.le_trans HW.out hb.size
      have HCC2 : Hid (CellsAt y0 w.heap.size a1.ar 33) := HC.out.below hb HC.out.lt
      have HDD2 : Hid (CellsAt y0 (w.heap.size + 1) noAtr.ar 33) := HD.out.below hb HD.out.lt
      have HPP2 : Hid (CpP y0 (w.heap.size + 1 + 1) A1 a.segs.length p1 a.segs segs a.segs.length) := HP.out.keep (fun q h1 h2 => hb.block q h2)
      have HL0_0 : Hid (OwnL y0 (w.heap.size + 1 + 1) 22 1 u1 (.slice A2 a.comms.length p2) a.comms) := OwnM.lower ho HW.out
      clear ho hb hHeld
      refine hK.out _ _ (⟨HCC2.out, HB2.out⟩) (fun hHeld => ?_)
      clear hK K
      try simp only [Act.put, List.setIfInBounds_toArray, List.set_cons_zero, List.set_cons_succ]
      refine wpAnyU_takeP (i := 12) (oi := { dst := some 39, op := Op.fieldAddr 33 (Operand.tmp 1) 10, type := 0, pos := "attr.go:54", after := #[{ on := 0, ground := Ground.phase }, { on := 1, ground := Ground.phase }, { on := 2, ground := Ground.phase }, { on := 3, ground := Ground.phase }, { on := 4, ground := Ground.phase }, { on := 5, ground := Ground.textOnly Departure.lateStoresUnsure }, { on := 6, ground := Ground.phase }, { on := 7, ground := Ground.phase }, { on := 8, ground := Ground.textOnly Departure.lateStoresUnsure }, { on := 9, ground := Ground.phase }, { on := 10, ground := Ground.phase }, { on := 11, ground := Ground.textOnly Departure.lateStoresUnsure }], guard := none }) (v := ?_) rfl (by rfl) (by kernel_rfl) (by kernel_rfl) (by kernel_rfl) (fun _ _ _ h => h) (Or.inl ⟨by rfl, ?_⟩) hHeld ?_
      rotate_left
      · intro w hSw
        clear hSw
        go_simp
        try with_reducible rfl
      try simp only [Act.put, List.setIfInBounds_toArray, List.set_cons_zero, List.set_cons_succ]
      refine wpAnyU_step (i := 5) (o := { dst := some 32, op := Op.call { callee := Callee.value (Operand.func 75), args := #[Operand.tmp 31], argTypes := #[30] }, type := 30, pos := "attr.go:54", after := #[{ on := 4, ground := Ground.data }, { on := 2, ground := Ground.chain }], guard := none }) (by kernel_rfl) rfl (by rfl) (fun K hK => ?_)
      go_simp
      refine (HCX.out a.xA a.xC a.exts _ (HA.out.below hHeld.2 (Nat.le_refl _)).xrd (Nat.le_trans HA.out.xlen HA.out.xcap) hz2).mono ?_
      rintro e y1 ⟨⟨A3, p3, rfl, ho⟩, hb⟩
      have HB3 : Hid (Below w.heap.size w y1) := hHeld.2.trans (hb.mono hHeld.2.size)
      have HW3 : Hid (w.heap.size + 1 + 1 ≤ y1.heap.size) := Nat.le_trans HW2.out hb.size
      have HCC3 : Hid (CellsAt y1 w.heap.size a1.ar 33) := HCC2.out.below hb HCC2.out.lt
      have HDD3 : Hid (CellsAt y1 (w.heap.size + 1) noAtr.ar 33) := HDD2.out.below hb HDD2.out.lt
      have HPP3 : Hid (CpP y1 (w.heap.size + 1 + 1) A1 a.segs.length p1 a.segs segs a.segs.length) := HPP2.out.keep (fun q h1 h2 => hb.block q h2)
      have HL0_1 : Hid (OwnL y1 (w.heap.size + 1 + 1) 22 1 u1 (.slice A2 a.comms.length p2) a.comms) := HL0_0.out.keep (fun q h1 h2 => hb.block q h2)
      have HL1_1 : Hid (OwnL y1 (w.heap.size + 1 + 1) 25 1 x1 (.slice A3 a.exts.length p3) a.exts) := OwnM.lower ho HW2.out
      clear ho hb hHeld
      refine hK.out _ _ (⟨HCC3.out, HB3.out⟩) (fun hHeld => ?_)
      clear hK K
      try simp only [Act.put, List.setIfInBounds_toArray, List.set_cons_zero, List.set_cons_succ]
      refine wpAnyU_step (i := 8) (o := { dst := some 35, op := Op.call { callee := Callee.value (Operand.func 76), args := #[Operand.tmp 34], argTypes := #[31] }, type := 31, pos := "attr.go:54", after := #[{ on := 7, ground := Ground.data }, { on := 5, ground := Ground.chain }], guard := none }) (by kernel_rfl) rfl (by rfl) (fun K hK => ?_)
      go_simp
      refine (HCL.out a.lA a.lC a.larges _ (HA.out.below hHeld.2 (Nat.le_refl _)).lrd (Nat.le_trans HA.out.llen HA.out.lcap) hz3).mono ?_
      rintro e y2 ⟨⟨A4, p4, rfl, ho⟩, hb⟩
      have HB4 : Hid (Below w.heap.size w y2) := hHeld.2.trans (hb.mono hHeld.2.size)
      have HW4 : Hid (w.heap.size + 1 + 1 ≤ y2.heap.size) := Nat.le_trans HW3.out hb.size
      have HCC4 : Hid (CellsAt y2 w.heap.size a1.ar 33) := HCC3.out.below hb HCC3.out.lt
      have HDD4 : Hid (CellsAt y2 (w.heap.size + 1) noAtr.ar 33) := HDD3.out.below hb HDD3.out.lt
      have HPP4 : Hid (CpP y2 (w.heap.size + 1 + 1) A1 a.segs.length p1 a.segs segs a.segs.length) := HPP3.out.keep (fun q h1 h2 => hb.block q h2)
      have HL0_2 : Hid (OwnL y2 (w.heap.size + 1 + 1) 22 1 u1 (.slice A2 a.comms.length p2) a.comms) := HL0_1.out.keep (fun q h1 h2 => hb.block q h2)
      have HL1_2 : Hid (OwnL y2 (w.heap.size + 1 + 1) 25 1 x1 (.slice A3 a.exts.length p3) a.exts) := HL1_1.out.keep (fun q h1 h2 => hb.block q h2)
      have HL2_2 : Hid (OwnL y2 (w.heap.size + 1 + 1) 81 3 Lg.cs (.slice A4 a.larges.length p4) a.larges) := OwnM.lower ho HW3.out
      clear ho hb hHeld
      refine hK.out _ _ (⟨HCC4.out, HB4.out⟩) (fun hHeld => ?_)
      clear hK K
      try simp only [Act.put, List.setIfInBounds_toArray, List.set_cons_zero, List.set_cons_succ]
      refine wpAnyU_step (i := 11) (o := { dst := some 38, op := Op.call { callee := Callee.value (Operand.func 74), args := #[Operand.tmp 37], argTypes := #[29] }, type := 29, pos := "attr.go:54", after := #[{ on := 10, ground := Ground.data }, { on := 8, ground := Ground.chain }], guard := none }) (by kernel_rfl) rfl (by rfl) (fun K hK => ?_)
      go_simp
      refine (HCM.out a.kA a.kC a.clus _ (HA.out.below hHeld.2 (Nat.le_refl _)).krd (Nat.le_trans HA.out.klen HA.out.kcap) hz4).mono ?_
      rintro e y3 ⟨⟨A5, p5, rfl, ho⟩, hb⟩
      have HKB : Hid (∀ k, (Value.slice A5 a.clus.length p5).ownBlock = some k → y2.heap.size ≤ k) := fun k hk => (OwnM.lt ho k hk).1
      have HMB : Hid (∀ k, (Value.slice A2 a.comms.length p2).ownBlock = some k → k < y2.heap.size) := fun k hk => (OwnM.lt HL0_2.out k hk).2
      have HSB : Hid (∀ s ∈ segs, ∀ k, (Value.slice s.A s.as_.length s.cap).ownBlock = some k → k < y2.heap.size) := fun s hs k hk => by
        obtain ⟨j, hj⟩ := List.getElem?_of_mem hs
        exact (OwnM.lt (HPP4.out.done j s (by rw [← HPP4.out.len]; exact (List.getElem?_eq_some_iff.1 hj).1) hj) k hk).2
      have HB5 : Hid (Below w.heap.size w y3) := hHeld.2.trans (hb.mono hHeld.2.size)
      have HW5 : Hid (w.heap.size + 1 + 1 ≤ y3.heap.size) := Nat.le_trans HW4.out hb.size
      have HCC5 : Hid (CellsAt y3 w.heap.size a1.ar 33) := HCC4.out.below hb HCC4.out.lt
      have HDD5 : Hid (CellsAt y3 (w.heap.size + 1) noAtr.ar 33) := HDD4.out.below hb HDD4.out.lt
      have HPP5 : Hid (CpP y3 (w.heap.size + 1 + 1) A1 a.segs.length p1 a.segs segs a.segs.length) := HPP4.out.keep (fun q h1 h2 => hb.block q h2)
      have HL0_3 : Hid (OwnL y3 (w.heap.size + 1 + 1) 22 1 u1 (.slice A2 a.comms.length p2) a.comms) := HL0_2.out.keep (fun q h1 h2 => hb.block q h2)
      have HL1_3 : Hid (OwnL y3 (w.heap.size + 1 + 1) 25 1 x1 (.slice A3 a.exts.length p3) a.exts) := HL1_2.out.keep (fun q h1 h2 => hb.block q h2)
      have HL2_3 : Hid (OwnL y3 (w.heap.size + 1 + 1) 81 3 Lg.cs (.slice A4 a.larges.length p4) a.larges) := HL2_2.out.keep (fun q h1 h2 => hb.block q h2)
      have HL3_3 : Hid (OwnL y3 (w.heap.size + 1 + 1) 22 1 u1 (.slice A5 a.clus.length p5) a.clus) := OwnM.lower ho HW4.out
      clear ho hb hHeld
      have ef := HCC5.out.unfrz
      obtain ⟨d0, d1, d2, d3, d4, d5, d6, d7, d8, d9, d10, d11, d12, d13, d14, d15⟩ := atr_cells HCC5.out
      have ef10 := ef 10
      have ef11 := ef 11
      have ef12 := ef 12
      have ef15 := ef 15
      clear ef
      refine hK.out _ _ (⟨HCC5.out, HB5.out⟩) (fun hHeld => ?_)
      clear hK K
      try simp only [Act.put, List.setIfInBounds_toArray, List.set_cons_zero, List.set_cons_succ]
      refine wpAnyU_last (i := 13) (o := { dst := none, op := Op.store 29 (Operand.tmp 39) (Operand.tmp 29), type := 0, pos := "attr.go:54", after := #[{ on := 12, ground := Ground.data }, { on := 2, ground := Ground.data }, { on := 11, ground := Ground.chain }, { on := 0, ground := Ground.phase }, { on := 1, ground := Ground.phase }, { on := 2, ground := Ground.phase }, { on := 3, ground := Ground.phase }, { on := 4, ground := Ground.phase }, { on := 5, ground := Ground.textOnly Departure.lateStoresUnsure }, { on := 6, ground := Ground.phase }, { on := 7, ground := Ground.phase }, { on := 8, ground := Ground.textOnly Departure.lateStoresUnsure }, { on := 9, ground := Ground.phase }, { on := 10, ground := Ground.phase }, { on := 11, ground := Ground.textOnly Departure.lateStoresUnsure }], guard := none }) (by kernel_rfl) rfl (by rfl) (fun K hK => ?_)
      go_simp
      have HBs1 : Hid (Below w.heap.size w (y3.setCell ⟨w.heap.size, 10, none⟩ (.slice A2 a.comms.length p2))) := HB5.out.setCell (Nat.le_refl _) _
      refine hK.out _ _ ?_
      clear hK K
      try simp only [Act.put, List.setIfInBounds_toArray, List.set_cons_zero, List.set_cons_succ]
      refine wpAnyU_takeP (i := 14) (oi := { dst := some 40, op := Op.fieldAddr 33 (Operand.tmp 1) 11, type := 0, pos := "attr.go:54", after := #[{ on := 0, ground := Ground.phase }, { on := 1, ground := Ground.phase }, { on := 2, ground := Ground.phase }, { on := 3, ground := Ground.phase }, { on := 4, ground := Ground.phase }, { on := 5, ground := Ground.phase }, { on := 6, ground := Ground.phase }, { on := 7, ground := Ground.phase }, { on := 8, ground := Ground.textOnly Departure.lateStoresUnsure }, { on := 9, ground := Ground.phase }, { on := 10, ground := Ground.phase }, { on := 11, ground := Ground.textOnly Departure.lateStoresUnsure }, { on := 12, ground := Ground.phase }, { on := 13, ground := Ground.phase }], guard := none }) (v := ?_) rfl (by rfl) (by kernel_rfl) (by kernel_rfl) (by kernel_rfl) (fun _ _ _ h => h) (Or.inl ⟨by rfl, ?_⟩) trivial ?_
      rotate_left
      · intro w hSw
        clear hSw
        go_simp
        try with_reducible rfl
      try simp only [Act.put, List.setIfInBounds_toArray, List.set_cons_zero, List.set_cons_succ]
      refine wpAnyU_last (i := 15) (o := { dst := none, op := Op.store 30 (Operand.tmp 40) (Operand.tmp 32), type := 0, pos := "attr.go:54", after := #[{ on := 14, ground := Ground.data }, { on := 5, ground := Ground.data }, { on := 13, ground := Ground.chain }, { on := 0, ground := Ground.phase }, { on := 1, ground := Ground.phase }, { on := 2, ground := Ground.phase }, { on := 3, ground := Ground.phase }, { on := 4, ground := Ground.phase }, { on := 5, ground := Ground.phase }, { on := 6, ground := Ground.phase }, { on := 7, ground := Ground.phase }, { on := 8, ground := Ground.textOnly Departure.lateStoresUnsure }, { on := 9, ground := Ground.phase }, { on := 10, ground := Ground.phase }, { on := 11, ground := Ground.textOnly Departure.lateStoresUnsure }, { on := 12, ground := Ground.phase }, { on := 13, ground := Ground.phase }], guard := none }) (by kernel_rfl) rfl (by rfl) (fun K hK => ?_)
      go_simp
      have HBs2 : Hid (Below w.heap.size w ((y3.setCell ⟨w.heap.size, 10, none⟩ (.slice A2 a.comms.length p2)).setCell ⟨w.heap.size, 11, none⟩ (.slice A3 a.exts.length p3))) := HBs1.out.setCell (Nat.le_refl _) _
      refine hK.out _ _ ?_
      clear hK K
      try simp only [Act.put, List.setIfInBounds_toArray, List.set_cons_zero, List.set_cons_succ]
      refine wpAnyU_takeP (i := 16) (oi := { dst := some 41, op := Op.fieldAddr 33 (Operand.tmp 1) 12, type := 0, pos := "attr.go:54", after := #[{ on := 0, ground := Ground.phase }, { on := 1, ground := Ground.phase }, { on := 2, ground := Ground.phase }, { on := 3, ground := Ground.phase }, { on := 4, ground := Ground.phase }, { on := 5, ground := Ground.phase }, { on := 6, ground := Ground.phase }, { on := 7, ground := Ground.phase }, { on := 8, ground := Ground.phase }, { on := 9, ground := Ground.phase }, { on := 10, ground := Ground.phase }, { on := 11, ground := Ground.textOnly Departure.lateStoresUnsure }, { on := 12, ground := Ground.phase }, { on := 13, ground := Ground.phase }, { on := 14, ground := Ground.phase }, { on := 15, ground := Ground.phase }], guard := none }) (v := ?_) rfl (by rfl) (by kernel_rfl) (by kernel_rfl) (by kernel_rfl) (fun _ _ _ h => h) (Or.inl ⟨by rfl, ?_⟩) trivial ?_
      rotate_left
      · intro w hSw
        clear hSw
        go_simp
        try with_reducible rfl
      try simp only [Act.put, List.setIfInBounds_toArray, List.set_cons_zero, List.set_cons_succ]
      refine wpAnyU_last (i := 17) (o := { dst := none, op := Op.store 31 (Operand.tmp 41) (Operand.tmp 35), type := 0, pos := "attr.go:54", after := #[{ on := 16, ground := Ground.data }, { on := 8, ground := Ground.data }, { on := 15, ground := Ground.chain }, { on := 0, ground := Ground.phase }, { on := 1, ground := Ground.phase }, { on := 2, ground := Ground.phase }, { on := 3, ground := Ground.phase }, { on := 4, ground := Ground.phase }, { on := 5, ground := Ground.phase }, { on := 6, ground := Ground.phase }, { on := 7, ground := Ground.phase }, { on := 8, ground := Ground.phase }, { on := 9, ground := Ground.phase }, { on := 10, ground := Ground.phase }, { on := 11, ground := Ground.textOnly Departure.lateStoresUnsure }, { on := 12, ground := Ground.phase }, { on := 13, ground := Ground.phase }, { on := 14, ground := Ground.phase }, { on := 15, ground := Ground.phase }], guard := none }) (by kernel_rfl) rfl (by rfl) (fun K hK => ?_)
      go_simp
      have HBs3 : Hid (Below w.heap.size w (((y3.setCell ⟨w.heap.size, 10, none⟩ (.slice A2 a.comms.length p2)).setCell ⟨w.heap.size, 11, none⟩ (.slice A3 a.exts.length p3)).setCell ⟨w.heap.size, 12, none⟩ (.slice A4 a.larges.length p4))) := HBs2.out.setCell (Nat.le_refl _) _
      refine hK.out _ _ ?_
      clear hK K
      try simp only [Act.put, List.setIfInBounds_toArray, List.set_cons_zero, List.set_cons_succ]
      refine wpAnyU_takeP (i := 18) (oi := { dst := some 42, op := Op.fieldAddr 33 (Operand.tmp 1) 15, type := 0, pos := "attr.go:54", after := #[{ on := 0, ground := Ground.phase }, { on := 1, ground := Ground.phase }, { on := 2, ground := Ground.phase }, { on := 3, ground := Ground.phase }, { on := 4, ground := Ground.phase }, { on := 5, ground := Ground.phase }, { on := 6, ground := Ground.phase }, { on := 7, ground := Ground.phase }, { on := 8, ground := Ground.phase }, { on := 9, ground := Ground.phase }, { on := 10, ground := Ground.phase }, { on := 11, ground := Ground.phase }, { on := 12, ground := Ground.phase }, { on := 13, ground := Ground.phase }, { on := 14, ground := Ground.phase }, { on := 15, ground := Ground.phase }, { on := 16, ground := Ground.phase }, { on := 17, ground := Ground.phase }], guard := none }) (v := ?_) rfl (by rfl) (by kernel_rfl) (by kernel_rfl) (by kernel_rfl) (fun _ _ _ h => h) (Or.inl ⟨by rfl, ?_⟩) trivial ?_
      rotate_left
      · intro w hSw
        clear hSw
        go_simp
        try with_reducible rfl
      try simp only [Act.put, List.setIfInBounds_toArray, List.set_cons_zero, List.set_cons_succ]
      refine wpAnyU_last (i := 19) (o := { dst := none, op := Op.store 29 (Operand.tmp 42) (Operand.tmp 38), type := 0, pos := "attr.go:54", after := #[{ on := 18, ground := Ground.data }, { on := 11, ground := Ground.data }, { on := 17, ground := Ground.chain }, { on := 0, ground := Ground.phase }, { on := 1, ground := Ground.phase }, { on := 2, ground := Ground.phase }, { on := 3, ground := Ground.phase }, { on := 4, ground := Ground.phase }, { on := 5, ground := Ground.phase }, { on := 6, ground := Ground.phase }, { on := 7, ground := Ground.phase }, { on := 8, ground := Ground.phase }, { on := 9, ground := Ground.phase }, { on := 10, ground := Ground.phase }, { on := 11, ground := Ground.phase }, { on := 12, ground := Ground.phase }, { on := 13, ground := Ground.phase }, { on := 14, ground := Ground.phase }, { on := 15, ground := Ground.phase }, { on := 16, ground := Ground.phase }, { on := 17, ground := Ground.phase }], guard := none }) (by kernel_rfl) rfl (by rfl) (fun K hK => ?_)
      go_simp
      have HBs4 : Hid (Below w.heap.size w ((((y3.setCell ⟨w.heap.size, 10, none⟩ (.slice A2 a.comms.length p2)).setCell ⟨w.heap.size, 11, none⟩ (.slice A3 a.exts.length p3)).setCell ⟨w.heap.size, 12, none⟩ (.slice A4 a.larges.length p4)).setCell ⟨w.heap.size, 15, none⟩ (.slice A5 a.clus.length p5))) := HBs3.out.setCell (Nat.le_refl _) _
      refine hK.out _ _ ?_
      clear hK K
      try simp only [Act.put, List.setIfInBounds_toArray, List.set_cons_zero, List.set_cons_succ]
      refine wpAnyU_done (by kernel_rfl) ?_ _
      skip
      obtain ⟨a5, ha5⟩ : ∃ b : Atr, b = { a with pA := A1, segs := segs, pC := p1, mA := A2, mC := p2, xA := A3, xC := p3, lA := A4, lC := p4, kA := A5, kC := p5 } := ⟨_, rfl⟩
      obtain ⟨S5, hS5⟩ : ∃ S, S = ((((y3.setCell ⟨w.heap.size, 10, none⟩ (.slice A2 a.comms.length p2)).setCell ⟨w.heap.size, 11, none⟩ (.slice A3 a.exts.length p3)).setCell ⟨w.heap.size, 12, none⟩ (.slice A4 a.larges.length p4)).setCell ⟨w.heap.size, 15, none⟩ (.slice A5 a.clus.length p5)) := ⟨_, rfl⟩
      have HKP : Hid (∀ q, w.heap.size + 1 + 1 ≤ q → q < y3.heap.size → S5.heap[q]? = y3.heap[q]?) := fun q h1 h2 => by
        rw [hS5]
        exact ((Below.heap_setCell _ _ _ q (by show q ≠ w.heap.size; omega)).trans ((Below.heap_setCell _ _ _ q (by show q ≠ w.heap.size; omega)).trans ((Below.heap_setCell _ _ _ q (by show q ≠ w.heap.size; omega)).trans (Below.heap_setCell _ _ _ q (by show q ≠ w.heap.size; omega)))))
      have HDD : Hid (CellsAt S5 (w.heap.size + 1) noAtr.ar 33) := by
        rw [hS5]
        exact ((Below.heap_setCell _ _ _ _ (by show w.heap.size + 1 ≠ w.heap.size; omega)).trans ((Below.heap_setCell _ _ _ _ (by show w.heap.size + 1 ≠ w.heap.size; omega)).trans ((Below.heap_setCell _ _ _ _ (by show w.heap.size + 1 ≠ w.heap.size; omega)).trans (Below.heap_setCell _ _ _ _ (by show w.heap.size + 1 ≠ w.heap.size; omega))))).trans HDD5.out
      have HCC : Hid (CellsAt S5 w.heap.size a5.ar 33) := by
        rw [hS5]
        have h := (((HCC5.out.setAt 10 (.slice A2 a.comms.length p2)).setAt 11 (.slice A3 a.exts.length p3)).setAt 12 (.slice A4 a.larges.length p4)).setAt 15 (.slice A5 a.clus.length p5)
        show CellsAt _ _ _ _
        rw [ha5]
        rw [HE1.out] at h
        show CellsAt _ _ #[_, .slice A1 segs.length p1, _, _, _, _, _, _, _, _, _, _, _, _, _, _] _
        rw [HPP5.out.len]
        exact h
      have HBB : Hid (Below w.heap.size w S5) := by rw [hS5]; exact HBs4.out
      have HL0 := Lib.hid (HL0_3.out.keep HKP.out)
      have HL1x := Lib.hid (HL1_3.out.keep HKP.out)
      have HL2 := Lib.hid (HL2_3.out.keep HKP.out)
      have HL3 := Lib.hid (HL3_3.out.keep HKP.out)
      have HPE := Lib.hid (HPP5.out.keep HKP.out)
      have HAT : Hid (AtO S5 (w.heap.size + 1 + 1) a5) := by
        show AtO _ _ _
        rw [ha5]
        exact {
          path := ⟨by have h := HPE.out.own; rwa [← HPE.out.len] at h, fun s hs => by
            obtain ⟨j, hj⟩ := List.getElem?_of_mem hs
            have hjl : j < a.segs.length := by rw [← HPE.out.len]; exact (List.getElem?_eq_some_iff.1 hj).1
            have hm : s.c ∈ a.segs.map Sg.c := by rw [← HPE.out.con]; exact List.mem_map_of_mem hs
            obtain ⟨z, hz, hzc⟩ := List.mem_map.1 hm
            have hz2 := HA.out.segs z hz
            have e1 : z.kind = s.kind := congrArg Prod.fst hzc
            have e2 : z.as_ = s.as_ := congrArg Prod.snd hzc
            exact ⟨HPE.out.done j s hjl hj, by rw [← e2]; exact hz2.fits, by rw [← e1]; exact hz2.kfit⟩⟩
          comms := HL0.out
          exts := HL1x.out
          larges := HL2.out
          clus := HL3.out
          next := HA.out.next
          mfit := HA.out.mfit
          xfit := HA.out.xfit
          lfit := HA.out.lfit
          kfit := HA.out.kfit
          ofit := HA.out.ofit
          nfit := HA.out.nfit }
      have HEC : Hid (a5.c = a.c) := by
        show _ = _
        rw [ha5]
        unfold Atr.c
        rw [← HPE.out.con]
      have HAPT : Hid (∀ k, (Value.slice a5.kA a5.clus.length a5.kC).ownBlock = some k → (Value.slice a5.mA a5.comms.length a5.mC).ownBlock ≠ some k ∧ ∀ s ∈ a5.segs, (Value.slice s.A s.as_.length s.cap).ownBlock ≠ some k) := by
        rw [ha5]
        intro k hk
        have h0 := HKB.out k hk
        exact ⟨fun e => by have := HMB.out k e; omega, fun s hs e => by have := HSB.out s hs k e; omega⟩
      rw [← hS5]
      clear ha5 hS5 HKP HL0 HL1x HL2 HL3 HPE HBs1 HBs2 HBs3 HBs4 d0 d1 d2 d3 d4 d5 d6 d7 d8 d9 d10 d11 d12 d13 d14 d15 ef10 ef11 ef12 ef15 c0 c1 c2 c3 c4 c5 c6 c7 c8 c9 c10 c11 c12 c13 c14 c15
      go_wp2_with (with_reducible show wpList _ _ _ (_ :: _) _ _; first | refine wpList_load_attrs rfl (.tmp 1) rfl w.heap.size rfl a5 HCC.out ?_ | refine wpList_store_attrs rfl (.tmp 2) (.tmp 43) rfl (w.heap.size + 1) rfl a5 (by kernel_rfl) noAtr HDD.out ?_)
      try simp only [Exit.inBlock, Exit.then]
      have HG := Lib.hid (grown_row S5 (w.heap.size + 1) a5.ar)
      refine bodyPost_ret (results_attrs rfl _ _ (w.heap.size + 1) a5 rfl (HDD.out.setRow' _)) rfl ⟨⟨a5, rfl, ⟨?_, HAPT.out⟩, HEC.out⟩, ?_⟩
      · exact (HAT.out.keep (fun q h1 h2 => HG.out.block q h2 (fun e => by injection e with e; omega))).lower' (by omega)
      · exact HBB.out.grown HG.out HBB.out.size (fun q hq => by cases hq; omega)
end Go.Proofs.YtojiieghjhjoaaaGreat
