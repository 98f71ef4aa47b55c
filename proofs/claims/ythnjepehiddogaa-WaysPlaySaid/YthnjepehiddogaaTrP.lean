/-
  Contract of (*Trie).Match. Conditions: sizes.
-/
import Derived.Test.YthnjepehiddogaaTrO
set_option linter.unusedVariables false
set_option linter.unusedSimpArgs false
namespace Go.Proofs.Ythnjepehiddogaa
open Go.RowKit Go.MapKept

theorem results_cell_tmp2 {fn : Func} {p u x : Tmp} {ty : TypeId} (h : fn.results = #[.cell p ty, .tmp u, .tmp x]) (tmps : Array Value) (P : Program) (w : World) :
    (results fn tmps).run P w =
      ((asAddr (tmps.getD p undef)).run P w).andThen fun a w₁ => ((loadVar ty a).run P w₁).andThen fun v w₂ => .ok (.tuple #[v, tmps.getD u undef, tmps.getD x undef]) w₂ := by
  simp only [results, h]
  simp [Sem.run_bind, Result.andThen]
theorem keep4 (W : World) (g : Nat) (a b c d : Value) : GrownX (fun x => x = g) W ((((W.setCell ⟨g, 0, none⟩ a).setCell ⟨g, 1, none⟩ b).setCell ⟨g, 2, none⟩ c).setCell ⟨g, 3, none⟩ d).drew :=
  ((((GrownX.of_row (X := fun x => x = g) (setCell_row W g 0 a) rfl).trans (GrownX.of_row (setCell_row _ g 1 b) rfl)).trans (GrownX.of_row (setCell_row _ g 2 c) rfl)).trans (GrownX.of_row (setCell_row _ g 3 d) rfl)).drew 1
def matchV : Option (Tp × Int) → Value
  | none => .tuple #[.agg #[.int .i64 0, .int .u64 0, .string ⟨#[]⟩, .int .i64 0], .int .i64 0, .bool false]
  | some (q, x) => .tuple #[q.v, .int .i64 x, .bool true]
def MatchPost (w : World) (R : List Rt) (p : Tp) (e : Ending) (w' : World) : Prop := Below w.heap.size w w' ∧ ∃ L, LongestR R p L ∧ e = .returned (matchV L)
set_option maxRecDepth 100000 in
set_option maxHeartbeats 4000000 in
theorem match_any (p : Tp) (hp : p.Ok) (bt base : Nat) (v : Value) (n : Int) (R : List Rt) (w : World) (h : TrieAt w bt base v n R) :
    Calls Try.prog 22 #[.pointer (some ⟨bt, 0, none⟩), p.v] w (MatchPost w R p) := by
  have HT := Lib.hid h
  have hbt := h.c.lt
  have HW := Lib.hid (fun w1 h c hc hcx => way_any p hp bt base v n R w1 h c hc hcx)
  clear h hp
  unfold Tp.v at HW ⊢
  obtain ⟨W, hW⟩ : ∃ W : World, W = ((w.alloc (.cells #[.int .i64 p.fam, .int .u64 p.rd, .string p.addr, .int .i64 (p.len : Nat)] 30)).alloc (.cells #[.int .i64 0, .int .u64 0, .string ⟨#[]⟩, .int .i64 0] 30)).alloc (.cells #[.pointer none] 68) := ⟨_, rfl⟩
  have A0 : Hid (CellsAt W w.heap.size #[.int .i64 p.fam, .int .u64 p.rd, .string p.addr, .int .i64 (p.len : Nat)] 30) := by
    rw [hW]
    exact ((CellsAt.new w _ _).alloc _).alloc _
  have A1 : Hid (CellsAt W (w.heap.size + 1) #[.int .i64 0, .int .u64 0, .string ⟨#[]⟩, .int .i64 0] 30) := by
    rw [hW]
    exact (CellsAt.new' _ _ (by simp) _ _).alloc _
  have A2 : Hid (CellsAt W (w.heap.size + 2) #[.pointer none] 68) := by
    rw [hW]
    exact CellsAt.new' _ _ (by simp) _ _
  have HB : Hid (Below w.heap.size w W) := by
    rw [hW]
    show Below _ _ _
    exact (((Below.refl _ _).alloc (Nat.le_refl _) _).alloc (by simp) _).alloc (by simp; omega) _
  obtain ⟨p0, p1, p2, p3, _⟩ := c4_at A0.out
  have hcx : ¬ trX bt v R (w.heap.size + 2) := fun hx => by
    have := HT.out.lt _ hx
    omega
  have HCX := Lib.hid hcx
  clear hcx
  go_enter Try.func22, Try.ntmps22
  go_wp2_with fail
  rw [← hW]
  clear hW
  refine (HW.out W (HT.out.below HB.out) (w.heap.size + 2) A2.out HCX.out).mono ?_
  rintro e w2 ⟨rfl, hg, F, L, hc, hf, hl⟩
  have HC2 := Lib.hid hc
  have HL := Lib.hid hl
  have B1 : Hid (CellsAt w2 (w.heap.size + 1) #[.int .i64 0, .int .u64 0, .string ⟨#[]⟩, .int .i64 0] 30) := A1.out.grownX hg (by omega)
  have HB2 : Hid (Below w.heap.size w w2) := hg.below HB.out (fun i hi => by omega) HB.out.size
  have c0 := hc.c1
  obtain ⟨b0, b1, b2, b3, g0, g1, g2, g3⟩ := c4_at B1.out
  clear hg hc hl A0 A1 A2 p0 p1 p2 p3 HCX HW
  have hB1 := B1.out.lt
  cases L with
  | none =>
    obtain rfl : F = none := hf
    go_wp2_with fail
    try simp only [Exit.inBlock, Exit.then]
    refine bodyPost_ret (v := matchV none) (by rw [results_cell_tmp2 rfl]; go_simp; try rfl) rfl ⟨?_, none, HL.out, rfl⟩
    clear HL HC2 B1 c0 b0 b1 b2 b3 g0 g1 g2 g3
    repeat' (first | with_reducible exact HB2.out | with_reducible refine Below.setCell ?_ (by simp) _)
  | some y =>
    obtain ⟨a, x⟩ := y
    obtain ⟨b, l, r, rfl, hb⟩ := hf
    have HN := Lib.hid hb
    obtain ⟨k0, k1, k2, k3, k4, k5, k6, k7⟩ := CellsAt.c8 hb
    have hbc : b ≠ w.heap.size + 1 := fun e => by
      have h1 := B1.out
      rw [← e] at h1
      have h2 := hb.symm.trans h1
      injection h2 with h2
      injection h2 with h2 h3 h4
      cases h3
    clear hb
    go_wp2_with fail
    refine wp_region_held_drew (S := fun w' => GrownX (fun x => x = w.heap.size + 1) w2 w') (by kernel_rfl) (GrownX.of_below (below_drewN (Below.refl _ _) 1)) (fun hHeld => ?_)
    refine wpAnyH_take (i := 0) (oi := { dst := some 17, op := Op.load 68 (Operand.tmp 7), type := 68, pos := "trie.go:203", after := #[], guard := none }) (v := ?_) rfl (by kernel_rfl) (by kernel_rfl) (by kernel_rfl) (fun _ _ _ h => h) (Or.inl ⟨by rfl, ?_⟩) hHeld ?_
    rotate_left
    · intro w hSw
      obtain ⟨k0, k1, k2, k3, k4, k5, k6, k7⟩ := CellsAt.c8 (HN.out.grownX hSw hbc)
      have c0 := CellsAt.c1 (HC2.out.grownX hSw (by omega))
      go_simp
      try with_reducible rfl
    try simp only [Act.put, List.setIfInBounds_toArray, List.set_cons_zero, List.set_cons_succ]
    refine wpAnyH_take (i := 1) (oi := { dst := some 18, op := Op.nilCheck (Operand.tmp 17), type := 0, pos := "trie.go:203", after := #[{ on := 0, ground := Ground.data }], guard := none }) (v := ?_) rfl (by kernel_rfl) (by kernel_rfl) (by kernel_rfl) (fun _ _ _ h => h) (Or.inl ⟨by rfl, ?_⟩) hHeld ?_
    rotate_left
    · intro w hSw
      clear hSw
      go_simp
      try with_reducible rfl
    try simp only [Act.put, List.setIfInBounds_toArray, List.set_cons_zero, List.set_cons_succ]
    refine wpAnyH_take (i := 2) (oi := { dst := some 19, op := Op.fieldAddr 76 (Operand.tmp 18) 0, type := 0, pos := "trie.go:203", after := #[{ on := 1, ground := Ground.data }], guard := none }) (v := ?_) rfl (by kernel_rfl) (by kernel_rfl) (by kernel_rfl) (fun _ _ _ h => h) (Or.inl ⟨by rfl, ?_⟩) hHeld ?_
    rotate_left
    · intro w hSw
      clear hSw
      go_simp
      try with_reducible rfl
    try simp only [Act.put, List.setIfInBounds_toArray, List.set_cons_zero, List.set_cons_succ]
    refine wpAnyH_take (i := 3) (oi := { dst := some 20, op := Op.load 30 (Operand.tmp 19), type := 30, pos := "trie.go:203", after := #[{ on := 2, ground := Ground.data }], guard := none }) (v := ?_) rfl (by kernel_rfl) (by kernel_rfl) (by kernel_rfl) (fun _ _ _ h => h) (Or.inl ⟨by rfl, ?_⟩) hHeld ?_
    rotate_left
    · intro w hSw
      obtain ⟨k0, k1, k2, k3, k4, k5, k6, k7⟩ := CellsAt.c8 (HN.out.grownX hSw hbc)
      have c0 := CellsAt.c1 (HC2.out.grownX hSw (by omega))
      go_simp
      try with_reducible rfl
    try simp only [Act.put, List.setIfInBounds_toArray, List.set_cons_zero, List.set_cons_succ]
    refine wpAnyH_take (i := 4) (oi := { dst := some 21, op := Op.load 68 (Operand.tmp 7), type := 68, pos := "trie.go:203", after := #[{ on := 8, ground := Ground.gcOnly Departure.lateStores }], guard := none }) (v := ?_) rfl (by kernel_rfl) (by kernel_rfl) (by kernel_rfl) (fun _ _ _ h => h) (Or.inl ⟨by rfl, ?_⟩) hHeld ?_
    rotate_left
    · intro w hSw
      obtain ⟨k0, k1, k2, k3, k4, k5, k6, k7⟩ := CellsAt.c8 (HN.out.grownX hSw hbc)
      have c0 := CellsAt.c1 (HC2.out.grownX hSw (by omega))
      go_simp
      try with_reducible rfl
    try simp only [Act.put, List.setIfInBounds_toArray, List.set_cons_zero, List.set_cons_succ]
    refine wpAnyH_take (i := 5) (oi := { dst := some 22, op := Op.nilCheck (Operand.tmp 21), type := 0, pos := "trie.go:203", after := #[{ on := 4, ground := Ground.data }, { on := 8, ground := Ground.gcOnly Departure.lateStores }], guard := none }) (v := ?_) rfl (by kernel_rfl) (by kernel_rfl) (by kernel_rfl) (fun _ _ _ h => h) (Or.inl ⟨by rfl, ?_⟩) hHeld ?_
    rotate_left
    · intro w hSw
      clear hSw
      go_simp
      try with_reducible rfl
    try simp only [Act.put, List.setIfInBounds_toArray, List.set_cons_zero, List.set_cons_succ]
    refine wpAnyH_take (i := 6) (oi := { dst := some 23, op := Op.fieldAddr 76 (Operand.tmp 22) 2, type := 0, pos := "trie.go:203", after := #[{ on := 5, ground := Ground.data }, { on := 8, ground := Ground.gcOnly Departure.lateStores }], guard := none }) (v := ?_) rfl (by kernel_rfl) (by kernel_rfl) (by kernel_rfl) (fun _ _ _ h => h) (Or.inl ⟨by rfl, ?_⟩) hHeld ?_
    rotate_left
    · intro w hSw
      clear hSw
      go_simp
      try with_reducible rfl
    try simp only [Act.put, List.setIfInBounds_toArray, List.set_cons_zero, List.set_cons_succ]
    refine wpAnyH_take (i := 7) (oi := { dst := some 24, op := Op.load 3 (Operand.tmp 23), type := 3, pos := "trie.go:203", after := #[{ on := 6, ground := Ground.data }, { on := 8, ground := Ground.gcOnly Departure.lateStores }], guard := none }) (v := ?_) rfl (by kernel_rfl) (by kernel_rfl) (by kernel_rfl) (fun _ _ _ h => h) (Or.inl ⟨by rfl, ?_⟩) hHeld ?_
    rotate_left
    · intro w hSw
      obtain ⟨k0, k1, k2, k3, k4, k5, k6, k7⟩ := CellsAt.c8 (HN.out.grownX hSw hbc)
      have c0 := CellsAt.c1 (HC2.out.grownX hSw (by omega))
      go_simp
      try with_reducible rfl
    try simp only [Act.put, List.setIfInBounds_toArray, List.set_cons_zero, List.set_cons_succ]
    refine wpAnyH_ready (rs := [8]) (by kernel_rfl) (by simp) ?_
    refine AllReadyH.cons (o := { dst := none, op := Op.store 30 (Operand.tmp 4) (Operand.tmp 20), type := 0, pos := "trie.go:203", after := #[{ on := 3, ground := Ground.data }, { on := 0, ground := Ground.phase }, { on := 1, ground := Ground.phase }, { on := 2, ground := Ground.phase }, { on := 3, ground := Ground.phase }, { on := 4, ground := Ground.textOnly Departure.lateStores }, { on := 5, ground := Ground.textOnly Departure.lateStores }, { on := 6, ground := Ground.textOnly Departure.lateStores }, { on := 7, ground := Ground.textOnly Departure.lateStores }], guard := none }) rfl (fun K hK => ?_) AllReadyH.nil
    go_simp
    skip
    refine hK.out _ _ (keep4 _ _ _ _ _ _) (fun hHeld => ?_)
    clear hK K
    try simp only [Act.put, List.setIfInBounds_toArray, List.set_cons_zero, List.set_cons_succ]
    refine wpAnyH_take (i := 9) (oi := { dst := some 5, op := Op.assign (Operand.tmp 24), type := 3, pos := "trie.go:203", after := #[{ on := 7, ground := Ground.data }, { on := 8, ground := Ground.chain }, { on := 0, ground := Ground.phase }, { on := 1, ground := Ground.phase }, { on := 2, ground := Ground.phase }, { on := 3, ground := Ground.phase }, { on := 4, ground := Ground.phase }, { on := 5, ground := Ground.phase }, { on := 6, ground := Ground.phase }, { on := 7, ground := Ground.phase }, { on := 8, ground := Ground.phase }], guard := none }) (v := ?_) rfl (by kernel_rfl) (by kernel_rfl) (by kernel_rfl) (fun _ _ _ h => h) (Or.inl ⟨by rfl, ?_⟩) hHeld ?_
    rotate_left
    · intro w hSw
      clear hSw
      go_simp
      try with_reducible rfl
    try simp only [Act.put, List.setIfInBounds_toArray, List.set_cons_zero, List.set_cons_succ]
    refine wpAnyH_take (i := 10) (oi := { dst := some 6, op := Op.assign (Operand.const (Value.bool true)), type := 4, pos := "trie.go:203", after := #[{ on := 9, ground := Ground.chain }, { on := 0, ground := Ground.phase }, { on := 1, ground := Ground.phase }, { on := 2, ground := Ground.phase }, { on := 3, ground := Ground.phase }, { on := 4, ground := Ground.phase }, { on := 5, ground := Ground.phase }, { on := 6, ground := Ground.phase }, { on := 7, ground := Ground.phase }, { on := 8, ground := Ground.phase }, { on := 9, ground := Ground.phase }], guard := none }) (v := ?_) rfl (by kernel_rfl) (by kernel_rfl) (by kernel_rfl) (fun _ _ _ h => h) (Or.inl ⟨by rfl, ?_⟩) hHeld ?_
    rotate_left
    · intro w hSw
      clear hSw
      go_simp
      try with_reducible rfl
    try simp only [Act.put, List.setIfInBounds_toArray, List.set_cons_zero, List.set_cons_succ]
    refine wpAnyH_done (by kernel_rfl) ?_ _
    clear hHeld
    go_wp2_with fail
    try simp only [Exit.inBlock, Exit.then]
    refine bodyPost_ret (v := matchV (some (a, x))) (by rw [results_cell_tmp2 rfl]; go_simp; try rfl) rfl ⟨?_, some (a, x), HL.out, rfl⟩
    clear HL HC2 B1 c0 b0 b1 b2 b3 g0 g1 g2 g3 HN k0 k1 k2 k3 k4 k5 k6 k7
    refine below_drewN ?_ 1
    repeat' (first | with_reducible exact HB2.out | with_reducible refine Below.setCell ?_ (by simp) _)
end Go.Proofs.Ythnjepehiddogaa
