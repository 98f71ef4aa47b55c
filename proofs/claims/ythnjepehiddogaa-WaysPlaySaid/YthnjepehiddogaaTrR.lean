/-
  Contract of (*Ways).Cost. Conditions: sizes.
-/
import Derived.Test.YthnjepehiddogaaTrQ
set_option linter.unusedVariables false
set_option linter.unusedSimpArgs false
namespace Go.Proofs.Ythnjepehiddogaa
open Go.RowKit Go.MapKept

/-- the cells of an answer, later -/
def AnsAt (w : World) (c : Nat) (x : Int) (b : Bool) : Prop := CellsAt w c #[.int .i64 x] 3 ∧ CellsAt w (c + 1) #[.bool b] 4
set_option maxRecDepth 100000 in
set_option maxHeartbeats 4000000 in
theorem cost1_any (p : Tp) (hp : p.Ok) (bw bt base : Nat) (v : Value) (n : Int) (R : List Rt) (c0 c : Nat) (x0 : Int) (b0 : Bool) (w : World) (h : WaysAt w bw bt base v n R) (h0 : CellsAt w c0 #[.pointer (some ⟨bw, 0, none⟩)] 24) (ha : AnsAt w c x0 b0)
    (n1 : c0 ≠ c ∧ c0 ≠ c + 1) (n2 : bw ≠ c ∧ bw ≠ c + 1) (n3 : ∀ x, trX bt v R x → x ≠ c ∧ x ≠ c + 1) :
    Calls Try.prog 21 #[p.v, .pointer (some ⟨c0, 0, none⟩), .pointer (some ⟨c, 0, none⟩), .pointer (some ⟨c + 1, 0, none⟩)] w fun e w' => e = .returned (.tuple #[]) ∧ GrownX (fun x => x = c ∨ x = c + 1) w w' ∧ ∃ x b, AnsAt w' c x b ∧ LongM (RMem R) p x b := by
  have HW := Lib.hid h
  have hbw := h.c.lt
  have hc1 := ha.2.lt
  have hc0 := h0.lt
  have HMA := Lib.hid (fun w1 h => match_any p hp bt base v n R w1 h)
  have HN := Lib.hid (And.intro n1 n2)
  have HZ := Lib.hid h0
  have HA := Lib.hid ha
  clear h hp h0 ha n1 n2 n3
  unfold Tp.v at HMA ⊢
  obtain ⟨W, hW⟩ : ∃ W, W = w.alloc (.cells #[.int .i64 p.fam, .int .u64 p.rd, .string p.addr, .int .i64 (p.len : Nat)] 30) := ⟨_, rfl⟩
  have HB : Hid (Below w.heap.size w W) := by
    rw [hW]
    show Below _ _ _
    exact (Below.refl _ _).alloc (Nat.le_refl _) _
  have HP : Hid (CellsAt W w.heap.size #[.int .i64 p.fam, .int .u64 p.rd, .string p.addr, .int .i64 (p.len : Nat)] 30) := by
    rw [hW]
    exact CellsAt.new _ _ _
  have HZ1 : Hid (CellsAt W c0 #[.pointer (some ⟨bw, 0, none⟩)] 24) := HZ.out.below HB.out hc0
  have HC1 : Hid (CellsAt W bw #[.pointer (some ⟨bt, 0, none⟩)] 51) := HW.out.c.below HB.out hbw
  have HT1 : Hid (TrieAt W bt base v n R) := HW.out.t.below HB.out
  have HA1 : Hid (AnsAt W c x0 b0) := ⟨HA.out.1.below HB.out (by omega), HA.out.2.below HB.out hc1⟩
  go_enter Try.func21, Try.ntmps21
  go_wp2_with fail
  rw [← hW]
  clear hW
  refine wp_region_held_drew (S := fun w' => GrownX (fun x => x = c ∨ x = c + 1) W w') (by kernel_rfl) (GrownX.of_below (below_drewN (Below.refl _ _) 1)) (fun hHeld => ?_)
  refine wpAnyH_take (i := 0) (oi := { dst := some 6, op := Op.load 24 (Operand.tmp 1), type := 24, pos := "resolve.go:50", after := #[], guard := none }) (v := ?_) rfl (by kernel_rfl) (by kernel_rfl) (by kernel_rfl) (fun _ _ _ h => h) (Or.inl ⟨by rfl, ?_⟩) hHeld ?_
  rotate_left
  · intro w hSw
    have z0 := CellsAt.c1 (HZ1.out.grownX hSw (fun e => e.elim HN.out.1.1 HN.out.1.2))
    have w0 := CellsAt.c1 (HC1.out.grownX hSw (fun e => e.elim HN.out.2.1 HN.out.2.2))
    obtain ⟨p0, p1, p2, p3, _⟩ := c4_at (HP.out.grownX hSw (fun e => e.elim (by omega) (by omega)))
    go_simp
    try with_reducible rfl
  try simp only [Act.put, List.setIfInBounds_toArray, List.set_cons_zero, List.set_cons_succ]
  refine wpAnyH_take (i := 1) (oi := { dst := some 7, op := Op.nilCheck (Operand.tmp 6), type := 0, pos := "resolve.go:50", after := #[{ on := 0, ground := Ground.data }], guard := none }) (v := ?_) rfl (by kernel_rfl) (by kernel_rfl) (by kernel_rfl) (fun _ _ _ h => h) (Or.inl ⟨by rfl, ?_⟩) hHeld ?_
  rotate_left
  · intro w hSw
    clear hSw
    go_simp
    try with_reducible rfl
  try simp only [Act.put, List.setIfInBounds_toArray, List.set_cons_zero, List.set_cons_succ]
  refine wpAnyH_take (i := 2) (oi := { dst := some 8, op := Op.fieldAddr 51 (Operand.tmp 7) 0, type := 0, pos := "resolve.go:50", after := #[{ on := 1, ground := Ground.data }], guard := none }) (v := ?_) rfl (by kernel_rfl) (by kernel_rfl) (by kernel_rfl) (fun _ _ _ h => h) (Or.inl ⟨by rfl, ?_⟩) hHeld ?_
  rotate_left
  · intro w hSw
    clear hSw
    go_simp
    try with_reducible rfl
  try simp only [Act.put, List.setIfInBounds_toArray, List.set_cons_zero, List.set_cons_succ]
  refine wpAnyH_take (i := 3) (oi := { dst := some 9, op := Op.load 48 (Operand.tmp 8), type := 48, pos := "resolve.go:50", after := #[{ on := 2, ground := Ground.data }], guard := none }) (v := ?_) rfl (by kernel_rfl) (by kernel_rfl) (by kernel_rfl) (fun _ _ _ h => h) (Or.inl ⟨by rfl, ?_⟩) hHeld ?_
  rotate_left
  · intro w hSw
    have z0 := CellsAt.c1 (HZ1.out.grownX hSw (fun e => e.elim HN.out.1.1 HN.out.1.2))
    have w0 := CellsAt.c1 (HC1.out.grownX hSw (fun e => e.elim HN.out.2.1 HN.out.2.2))
    obtain ⟨p0, p1, p2, p3, _⟩ := c4_at (HP.out.grownX hSw (fun e => e.elim (by omega) (by omega)))
    go_simp
    try with_reducible rfl
  try simp only [Act.put, List.setIfInBounds_toArray, List.set_cons_zero, List.set_cons_succ]
  refine wpAnyH_take (i := 4) (oi := { dst := some 10, op := Op.load 30 (Operand.tmp 4), type := 30, pos := "resolve.go:50", after := #[], guard := none }) (v := ?_) rfl (by kernel_rfl) (by kernel_rfl) (by kernel_rfl) (fun _ _ _ h => h) (Or.inl ⟨by rfl, ?_⟩) hHeld ?_
  rotate_left
  · intro w hSw
    have z0 := CellsAt.c1 (HZ1.out.grownX hSw (fun e => e.elim HN.out.1.1 HN.out.1.2))
    have w0 := CellsAt.c1 (HC1.out.grownX hSw (fun e => e.elim HN.out.2.1 HN.out.2.2))
    obtain ⟨p0, p1, p2, p3, _⟩ := c4_at (HP.out.grownX hSw (fun e => e.elim (by omega) (by omega)))
    go_simp
    try with_reducible rfl
  try simp only [Act.put, List.setIfInBounds_toArray, List.set_cons_zero, List.set_cons_succ]
  refine wpAnyH_ready (rs := [5]) (by kernel_rfl) (by simp) ?_
  refine AllReadyH.cons (o := { dst := some 11, op := Op.call { callee := Callee.value (Operand.func 22), args := #[Operand.tmp 9, Operand.tmp 10], argTypes := #[48, 30] }, type := 53, pos := "resolve.go:50", after := #[{ on := 3, ground := Ground.data }, { on := 4, ground := Ground.data }], guard := none }) rfl (fun K hK => ?_) AllReadyH.nil
  go_simp
  refine (HMA.out _ (HT1.out.below (below_drewN (Below.refl _ _) 1))).mono ?_
  rintro e w9 hm9
  obtain ⟨hb9, P0, x, b, rfl, hl9⟩ := hm9.q
  have HB9 : Hid (Below W.heap.size W w9) := (below_drewN (Below.refl W.heap.size W) 1).trans hb9
  have HL9 := Lib.hid hl9
  have HA9 : Hid (AnsAt w9 c x0 b0) := ⟨HA1.out.1.below HB9.out (Nat.lt_of_lt_of_le (show c < w.heap.size by omega) HB.out.size), HA1.out.2.below HB9.out (Nat.lt_of_lt_of_le hc1 HB.out.size)⟩
  clear hb9 hl9 hm9
  have j0 := HA9.out.1.c1
  have j1 := HA9.out.2.c1
  have y0 := HA9.out.1.frozen 0
  have y1 := HA9.out.2.frozen 0
  go_wp2_with fail
  refine hK.out _ _ (GrownX.of_below HB9.out) (fun hHeld => ?_)
  clear hK K
  try simp only [Act.put, List.setIfInBounds_toArray, List.set_cons_zero, List.set_cons_succ]
  refine wpAnyH_take (i := 6) (oi := { dst := some 5, op := Op.move (Operand.tmp 11), type := 53, pos := "resolve.go:50", after := #[{ on := 5, ground := Ground.data }], guard := none }) (v := ?_) rfl (by kernel_rfl) (by kernel_rfl) (by kernel_rfl) (fun _ _ _ h => h) (Or.inl ⟨by rfl, ?_⟩) hHeld ?_
  rotate_left
  · intro w hSw
    clear hSw
    go_simp
    try with_reducible rfl
  try simp only [Act.put, List.setIfInBounds_toArray, List.set_cons_zero, List.set_cons_succ]
  refine wpAnyH_take (i := 7) (oi := { dst := some 12, op := Op.extract (Operand.tmp 5) 0, type := 30, pos := "resolve.go:50", after := #[{ on := 6, ground := Ground.data }], guard := none }) (v := ?_) rfl (by kernel_rfl) (by kernel_rfl) (by kernel_rfl) (fun _ _ _ h => h) (Or.inl ⟨by rfl, ?_⟩) hHeld ?_
  rotate_left
  · intro w hSw
    clear hSw
    go_simp
    try with_reducible rfl
  try simp only [Act.put, List.setIfInBounds_toArray, List.set_cons_zero, List.set_cons_succ]
  refine wpAnyH_take (i := 8) (oi := { dst := some 13, op := Op.extract (Operand.tmp 5) 1, type := 3, pos := "resolve.go:50", after := #[{ on := 6, ground := Ground.data }], guard := none }) (v := ?_) rfl (by kernel_rfl) (by kernel_rfl) (by kernel_rfl) (fun _ _ _ h => h) (Or.inl ⟨by rfl, ?_⟩) hHeld ?_
  rotate_left
  · intro w hSw
    clear hSw
    go_simp
    try with_reducible rfl
  try simp only [Act.put, List.setIfInBounds_toArray, List.set_cons_zero, List.set_cons_succ]
  refine wpAnyH_take (i := 9) (oi := { dst := some 14, op := Op.extract (Operand.tmp 5) 2, type := 4, pos := "resolve.go:50", after := #[{ on := 6, ground := Ground.data }, { on := 10, ground := Ground.gcOnly Departure.lateStores }], guard := none }) (v := ?_) rfl (by kernel_rfl) (by kernel_rfl) (by kernel_rfl) (fun _ _ _ h => h) (Or.inl ⟨by rfl, ?_⟩) hHeld ?_
  rotate_left
  · intro w hSw
    clear hSw
    go_simp
    try with_reducible rfl
  try simp only [Act.put, List.setIfInBounds_toArray, List.set_cons_zero, List.set_cons_succ]
  refine wpAnyH_ready (rs := [10]) (by kernel_rfl) (by simp) ?_
  refine AllReadyH.cons (o := { dst := none, op := Op.store 3 (Operand.tmp 2) (Operand.tmp 13), type := 0, pos := "resolve.go:50", after := #[{ on := 8, ground := Ground.data }, { on := 5, ground := Ground.chain }, { on := 0, ground := Ground.phase }, { on := 1, ground := Ground.phase }, { on := 2, ground := Ground.phase }, { on := 3, ground := Ground.phase }, { on := 4, ground := Ground.phase }, { on := 5, ground := Ground.phase }, { on := 6, ground := Ground.phase }, { on := 7, ground := Ground.phase }, { on := 8, ground := Ground.phase }, { on := 9, ground := Ground.textOnly Departure.lateStores }], guard := none }) rfl (fun K hK => ?_) AllReadyH.nil
  go_simp
  skip
  refine hK.out _ _ (hHeld.trans (GrownX.of_row (setCell_row _ _ _ _) (Or.inl rfl))) (fun hHeld => ?_)
  clear hK K
  try simp only [Act.put, List.setIfInBounds_toArray, List.set_cons_zero, List.set_cons_succ]
  refine wpAnyH_ready (rs := [11]) (by kernel_rfl) (by simp) ?_
  refine AllReadyH.cons (o := { dst := none, op := Op.store 4 (Operand.tmp 3) (Operand.tmp 14), type := 0, pos := "resolve.go:50", after := #[{ on := 9, ground := Ground.data }, { on := 10, ground := Ground.chain }, { on := 0, ground := Ground.phase }, { on := 1, ground := Ground.phase }, { on := 2, ground := Ground.phase }, { on := 3, ground := Ground.phase }, { on := 4, ground := Ground.phase }, { on := 5, ground := Ground.phase }, { on := 6, ground := Ground.phase }, { on := 7, ground := Ground.phase }, { on := 8, ground := Ground.phase }, { on := 9, ground := Ground.phase }, { on := 10, ground := Ground.phase }], guard := none }) rfl (fun K hK => ?_) AllReadyH.nil
  go_simp
  skip
  refine hK.out _ _ (hHeld.trans (GrownX.of_row (setCell_row _ _ _ _) (Or.inr rfl))) (fun hHeld => ?_)
  clear hK K
  try simp only [Act.put, List.setIfInBounds_toArray, List.set_cons_zero, List.set_cons_succ]
  refine wpAnyH_done (by kernel_rfl) ?_ _
  go_wp2_with fail
  go_end0
  refine ⟨rfl, (GrownX.of_below HB.out).trans hHeld, x, b, ⟨((HA9.out.1.setc 0 _).cast rfl).row (setCell_row _ _ _ _) (by omega), ((HA9.out.2.row (setCell_row _ _ _ _) (by omega)).setc 0 _).cast rfl⟩, HL9.out⟩
/-- the cost of a next hop -/
def CostOf (M : Tp → Int → Prop) (next : ByteArray) (x : Int) (b : Bool) : Prop :=
  if next.size = 4 then LongM M ⟨1, 0, next, 32⟩ x b else if next.size = 16 then LongM M ⟨2, 0, next, 128⟩ x b else x = 0 ∧ b = false
theorem whole_ok4 {next : ByteArray} (h : next.size = 4) : Tp.Ok ⟨1, 0, next, 32⟩ := by
  refine ⟨by show famSize 1 ≠ 0; decide, by rw [h]; rfl, by simp, by show ((32 : Nat) : Int) ≤ 8 * famSize 1; decide, Or.inl rfl, (maskB_bits _ _).2 fun i h1 h2 => ?_⟩
  rw [h] at h2
  have h3 : (32 : Int) ≤ (i : Int) := h1
  omega
theorem whole_ok16 {next : ByteArray} (h : next.size = 16) : Tp.Ok ⟨2, 0, next, 128⟩ := by
  refine ⟨by show famSize 2 ≠ 0; decide, by rw [h]; rfl, by simp, by show ((128 : Nat) : Int) ≤ 8 * famSize 2; decide, Or.inl rfl, (maskB_bits _ _).2 fun i h1 h2 => ?_⟩
  rw [h] at h2
  have h3 : (128 : Int) ≤ (i : Int) := h1
  omega
set_option maxRecDepth 100000 in
set_option maxHeartbeats 4000000 in
theorem whole_any (next : ByteArray) (bw bt base : Nat) (v : Value) (n : Int) (R : List Rt) (c0 c : Nat) (w : World) (h : WaysAt w bw bt base v n R) (h0 : CellsAt w c0 #[.pointer (some ⟨bw, 0, none⟩)] 24) (ha : AnsAt w c 0 false)
    (n1 : c0 ≠ c ∧ c0 ≠ c + 1) (n2 : bw ≠ c ∧ bw ≠ c + 1) (n3 : ∀ x, trX bt v R x → x ≠ c ∧ x ≠ c + 1) :
    Calls Try.prog 20 #[.string next, .func (.func 21) #[] #[.pointer (some ⟨c0, 0, none⟩), .pointer (some ⟨c, 0, none⟩), .pointer (some ⟨c + 1, 0, none⟩)]] w fun e w' => e = .returned (.tuple #[]) ∧ GrownX (fun x => x = c ∨ x = c + 1) w w' ∧ ∃ x b, AnsAt w' c x b ∧ CostOf (RMem R) next x b := by
  have HALL := Lib.hid (fun p hp => cost1_any p hp bw bt base v n R c0 c 0 false w h h0 ha n1 n2 n3)
  have HA := Lib.hid ha
  clear h h0 ha n1 n2 n3
  by_cases h4 : next.size = 4
  · have HCO : Hid (∀ x b, LongM (RMem R) ⟨1, 0, next, 32⟩ x b → CostOf (RMem R) next x b) := fun x b h => by
      unfold CostOf
      rw [if_pos h4]
      exact h
    have HP := Lib.hid (HALL.out ⟨1, 0, next, 32⟩ (whole_ok4 h4))
    have e1 : ((next.size : Int) == 4) = true := by rw [beq_iff_eq]; omega
    clear HALL h4
    go_enter Try.func20, Try.ntmps20
    go_wp2_with fail
    refine HP.out.mono ?_
    rintro e w1 ⟨rfl, hg, x, b, hb, hl⟩
    have H1 := Lib.hid hg
    have H2 := Lib.hid hb
    have H3 := Lib.hid hl
    clear hg hb hl
    go_wp2_with fail
    go_end0
    exact ⟨rfl, H1.out, x, b, H2.out, HCO.out x b H3.out⟩
  · have e1 : ((next.size : Int) == 4) = false := by rw [beq_eq_false_iff_ne]; omega
    by_cases h16 : next.size = 16
    · have HCO : Hid (∀ x b, LongM (RMem R) ⟨2, 0, next, 128⟩ x b → CostOf (RMem R) next x b) := fun x b h => by
        unfold CostOf
        rw [if_neg h4, if_pos h16]
        exact h
      have HP := Lib.hid (HALL.out ⟨2, 0, next, 128⟩ (whole_ok16 h16))
      have e2 : ((next.size : Int) == 16) = true := by rw [beq_iff_eq]; omega
      clear HALL h4 h16
      go_enter Try.func20, Try.ntmps20
      go_wp2_with fail
      refine HP.out.mono ?_
      rintro e w1 ⟨rfl, hg, x, b, hb, hl⟩
      have H1 := Lib.hid hg
      have H2 := Lib.hid hb
      have H3 := Lib.hid hl
      clear hg hb hl
      go_wp2_with fail
      go_end0
      exact ⟨rfl, H1.out, x, b, H2.out, HCO.out x b H3.out⟩
    · have e2 : ((next.size : Int) == 16) = false := by rw [beq_eq_false_iff_ne]; omega
      have HCO : Hid (CostOf (RMem R) next 0 false) := by
        show CostOf _ _ _ _
        unfold CostOf
        rw [if_neg h4, if_neg h16]
        exact ⟨rfl, rfl⟩
      clear HALL h4 h16
      go_enter Try.func20, Try.ntmps20
      go_wp2_with fail
      go_end0
      exact ⟨rfl, GrownX.refl _ _, 0, false, HA.out, HCO.out⟩
theorem results_cells2 {fn : Func} {p u : Tmp} {t s : TypeId} (h : fn.results = #[.cell p t, .cell u s]) (tmps : Array Value) (P : Program) (w : World) :
    (results fn tmps).run P w =
      ((asAddr (tmps.getD p undef)).run P w).andThen fun a w₁ => ((loadVar t a).run P w₁).andThen fun v w₂ => ((asAddr (tmps.getD u undef)).run P w₂).andThen fun a w₃ => ((loadVar s a).run P w₃).andThen fun x w₄ => .ok (.tuple #[v, x]) w₄ := by
  simp only [results, h]
  simp [Sem.run_bind, Result.andThen]
def CostPost (w : World) (M : Tp → Int → Prop) (next : ByteArray) (e : Ending) (w' : World) : Prop := Below w.heap.size w w' ∧ ∃ x b, e = .returned (.tuple #[.int .i64 x, .bool b]) ∧ CostOf M next x b
theorem LongM.same {M N : Tp → Int → Prop} {p : Tp} {x : Int} {b : Bool} (h : LongM M p x b) (e : ∀ q x, M q x ↔ N q x) : LongM N p x b := by
  cases b with
  | false => exact ⟨h.1, fun q y hq => h.2 q y ((e q y).2 hq)⟩
  | true =>
    obtain ⟨q, h1, h2, h3, h4, h5⟩ := h
    exact ⟨q, (e q x).1 h1, h2, h3, h4, fun q' y hq => h5 q' y ((e q' y).2 hq)⟩
theorem CostOf.same {M N : Tp → Int → Prop} {next : ByteArray} {x : Int} {b : Bool} (h : CostOf M next x b) (e : ∀ q x, M q x ↔ N q x) : CostOf N next x b := by
  unfold CostOf at h ⊢
  split
  · rename_i h4
    rw [if_pos h4] at h
    exact h.same e
  · rename_i h4
    rw [if_neg h4] at h
    split
    · rename_i h16
      rw [if_pos h16] at h
      exact h.same e
    · rename_i h16
      rw [if_neg h16] at h
      exact h
set_option maxRecDepth 100000 in
set_option maxHeartbeats 4000000 in
theorem cost_any (next : ByteArray) (bw : Nat) (M : Tp → Int → Prop) (X : Nat → Prop) (w : World) (h : WaysIs w bw M X) :
    Calls Try.prog 9 #[.pointer (some ⟨bw, 0, none⟩), .string next] w (CostPost w M next) := by
  obtain ⟨bt, base, v, n, R, hw, hm, hx⟩ := h
  have HW := Lib.hid hw
  have HM := Lib.hid hm
  have hbw := hw.c.lt
  have HWH := Lib.hid (fun w1 c0 c h1 h2 h3 n1 n2 n3 => whole_any next bw bt base v n R c0 c w1 h1 h2 h3 n1 n2 n3)
  clear hw hm hx
  obtain ⟨W, hW⟩ : ∃ W, W = ((w.alloc (.cells #[.pointer (some ⟨bw, 0, none⟩)] 24)).alloc (.cells #[.int .i64 0] 3)).alloc (.cells #[.bool false] 4) := ⟨_, rfl⟩
  have HB : Hid (Below w.heap.size w W) := by
    rw [hW]
    show Below _ _ _
    exact (((Below.refl _ _).alloc (Nat.le_refl _) _).alloc (by simp) _).alloc (by simp; omega) _
  have H0 : Hid (CellsAt W w.heap.size #[.pointer (some ⟨bw, 0, none⟩)] 24) := by
    rw [hW]
    exact ((CellsAt.new w _ _).alloc _).alloc _
  have HA : Hid (AnsAt W (w.heap.size + 1) 0 false) := by
    rw [hW]
    exact ⟨(CellsAt.new' _ _ (by simp) _ _).alloc _, CellsAt.new' _ _ (by simp) _ _⟩
  have HW1 : Hid (WaysAt W bw bt base v n R) := ⟨HW.out.c.below HB.out hbw, HW.out.t.below HB.out, Nat.le_trans HW.out.b HB.out.size, HW.out.o⟩
  have w0 := HW1.out.c.c1
  have z0 := H0.out.c1
  go_enter Try.func9, Try.ntmps9
  go_wp2_with fail
  rw [← hW]
  clear hW
  refine (wnone_any bw ⟨bt, 0, none⟩ _ w0).mono ?_
  rintro e w1 ⟨rfl, hw1⟩
  have hw1 := hw1.symm
  subst hw1
  go_wp2_with fail
  refine (HWH.out W w.heap.size (w.heap.size + 1) HW1.out H0.out HA.out ⟨by omega, by omega⟩ ⟨by omega, by omega⟩ (fun x hx => by
    have := HW.out.t.lt x hx
    omega)).mono ?_
  rintro e w2 ⟨rfl, hg, x, b, ha, hl⟩
  have HB2 : Hid (Below w.heap.size w w2) := hg.below HB.out (fun i hi => by omega) HB.out.size
  have HL2 := Lib.hid (hl.same HM.out)
  have HA2 := Lib.hid ha
  clear hg ha hl w0 z0
  have j0 := HA2.out.1.c1
  have j1 := HA2.out.2.c1
  have y0 := HA2.out.1.frozen 0
  have y1 := HA2.out.2.frozen 0
  go_wp2_with fail
  refine wp_region_held_drew (S := fun w' => AnsAt w' (w.heap.size + 1) x b ∧ Below w.heap.size w w') (by kernel_rfl) (And.intro (And.intro (HA2.out.1.drew 1) (HA2.out.2.drew 1)) (below_drewN HB2.out 1)) (fun hHeld => ?_)
  refine wpAnyH_take (i := 0) (oi := { dst := some 11, op := Op.load 3 (Operand.tmp 4), type := 3, pos := "resolve.go:51", after := #[], guard := none }) (v := ?_) rfl (by kernel_rfl) (by kernel_rfl) (by kernel_rfl) (fun _ _ _ h => h) (Or.inl ⟨by rfl, ?_⟩) hHeld ?_
  rotate_left
  · intro w hSw
    have i0 := hSw.1.1.c1
    have i1 := hSw.1.2.c1
    go_simp
    try with_reducible rfl
  try simp only [Act.put, List.setIfInBounds_toArray, List.set_cons_zero, List.set_cons_succ]
  refine wpAnyH_take (i := 1) (oi := { dst := some 12, op := Op.load 4 (Operand.tmp 5), type := 4, pos := "resolve.go:51", after := #[], guard := none }) (v := ?_) rfl (by kernel_rfl) (by kernel_rfl) (by kernel_rfl) (fun _ _ _ h => h) (Or.inl ⟨by rfl, ?_⟩) hHeld ?_
  rotate_left
  · intro w hSw
    have i0 := hSw.1.1.c1
    have i1 := hSw.1.2.c1
    go_simp
    try with_reducible rfl
  try simp only [Act.put, List.setIfInBounds_toArray, List.set_cons_zero, List.set_cons_succ]
  refine wpAnyH_ready (rs := [2]) (by kernel_rfl) (by simp) ?_
  refine AllReadyH.cons (o := { dst := none, op := Op.store 3 (Operand.tmp 4) (Operand.tmp 11), type := 0, pos := "resolve.go:51", after := #[{ on := 0, ground := Ground.data }, { on := 0, ground := Ground.phase }, { on := 1, ground := Ground.textOnly Departure.inlinedCapture }], guard := none }) rfl (fun K hK => ?_) AllReadyH.nil
  go_simp
  skip
  refine hK.out _ _ (And.intro (And.intro ((hHeld.1.1.setc 0 _).cast rfl) (hHeld.1.2.row (setCell_row _ _ _ _) (by omega))) (Below.setCell hHeld.2 (by simp) _)) (fun hHeld => ?_)
  clear hK K
  try simp only [Act.put, List.setIfInBounds_toArray, List.set_cons_zero, List.set_cons_succ]
  refine wpAnyH_ready (rs := [3]) (by kernel_rfl) (by simp) ?_
  refine AllReadyH.cons (o := { dst := none, op := Op.store 4 (Operand.tmp 5) (Operand.tmp 12), type := 0, pos := "resolve.go:51", after := #[{ on := 1, ground := Ground.data }, { on := 2, ground := Ground.chain }, { on := 0, ground := Ground.phase }, { on := 1, ground := Ground.phase }, { on := 2, ground := Ground.phase }], guard := none }) rfl (fun K hK => ?_) AllReadyH.nil
  go_simp
  skip
  refine hK.out _ _ (And.intro (And.intro (hHeld.1.1.row (setCell_row _ _ _ _) (by omega)) ((hHeld.1.2.setc 0 _).cast rfl)) (Below.setCell hHeld.2 (by simp; omega) _)) (fun hHeld => ?_)
  clear hK K
  try simp only [Act.put, List.setIfInBounds_toArray, List.set_cons_zero, List.set_cons_succ]
  refine wpAnyH_done (by kernel_rfl) ?_ _
  go_wp2_with fail
  try simp only [Exit.inBlock, Exit.then]
  refine bodyPost_ret (v := .tuple #[.int .i64 x, .bool b]) (by rw [results_cells2 rfl]; go_simp) rfl ⟨hHeld.2, x, b, rfl, HL2.out⟩
end Go.Proofs.Ythnjepehiddogaa
