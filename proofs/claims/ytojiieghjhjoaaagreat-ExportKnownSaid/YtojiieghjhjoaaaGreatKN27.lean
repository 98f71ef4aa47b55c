/-
  Several texts in one.
-/
import Derived.Test.YtojiieghjhjoaaaGreatKN26
import Derived.BigRegion
set_option linter.unusedVariables false
set_option linter.unusedSimpArgs false
namespace Go.Proofs.YtojiieghjhjoaaaGreat
open Go.RowKit Go.MapKept Go.Shelf
open Go.Lib hiding intOf

theorem inU8 : (Tryz.prog.info? 5).map (fun i => (i.zero, i.size, i.bytes)) = some (some (.int .u8 0), 1, 1) := by kernel_rfl
theorem madeb (k : Nat) : madeCells (Value.int IntKind.u8 0).cells k = (byteVals (List.replicate k 0)).toArray := by
  apply Array.toList_inj.1
  show (madeCells #[Value.int IntKind.u8 0] k).toList = _
  unfold madeCells byteVals
  apply List.ext_getElem?
  intro i
  by_cases hi : i < k
  · simp [hi, Nat.mod_one]
  · simp [hi]
section
variable {ops : Array Oper} {o : Oper} {a : Act} {W : World} {K : Act → World → Prop} {Q : Exit → Act → World → Prop}
theorem wp_make0 (hw : Region.wanted o (yielded ops a.tmps) = true) (p q : Operand) (ho : o.op = .makeSlice 64 p q) (k : Nat) (hx : a.eval p = .int .i64 k) (hy : a.eval q = .int .i64 k) (hk : k ≤ 1000000)
    (h : ∀ W', CellsAt W' W.heap.size (byteVals (List.replicate k 0)).toArray 5 → Below W.heap.size W W' → K (a.put o.dst (.slice (some ⟨W.heap.size, 0, none⟩) k k)) W') : if Region.wanted o (yielded ops a.tmps) = true then Oper.wp Tryz.prog o a W K Q else K (a.put o.dst undef) W := by
  rw [if_pos hw]
  obtain ⟨i0, hi, hz0, hz1, hz2⟩ := info_parts inU8
  have hrun := run_makeSlice (P := Tryz.prog) (w := W) 64 5 i0 _ Tryz.underlying64 hi hz0 .i64 .i64 k k (by omega) (by omega) (by rw [hz1]; omega) (by rw [hz2]; omega) (by omega)
  rw [Int.toNat_natCast, hz1, Nat.mul_one, madeb] at hrun
  unfold Oper.wp execOp
  simp only [ho, hx, hy, hrun, Sem.run_bind, Sem.run_pure, Result.andThen_ok]
  exact h _ (CellsAt.new _ _ _) ((Below.refl _ _).alloc (Nat.le_refl _) _)
theorem conv_at {b n : Nat} {l : List UInt8} (hc : CellsAt W b (byteVals l).toArray 5) (hn : n = l.length) : (convert 64 9 (.slice (some ⟨b, 0, none⟩) n n)).run Tryz.prog W = .ok (.string ⟨l.toArray⟩) W := by
  subst hn
  refine run_convert_bytes_back (P := Tryz.prog) _ 64 9 5 ⟨b, 0, none⟩ l.length l Tryz.underlying64 Tryz.underlying5 Tryz.underlying9 (fun j hj => ?_)
  rw [add_flat, hc.c j]
  simp [byteVals, hj]
theorem wp_convb (hw : Region.wanted o (yielded ops a.tmps) = true) (s : Operand) (ho : o.op = .convert 64 9 s) (b n : Nat) (l : List UInt8) (hx : a.eval s = .slice (some ⟨b, 0, none⟩) n n) (hn : n = l.length) (hc : CellsAt W b (byteVals l).toArray 5)
    (h : K (a.put o.dst (.string ⟨l.toArray⟩)) W) : if Region.wanted o (yielded ops a.tmps) = true then Oper.wp Tryz.prog o a W K Q else K (a.put o.dst undef) W := by
  rw [if_pos hw]
  have hrun := conv_at hc hn
  unfold Oper.wp execOp
  simp only [ho, hx, hrun, Sem.run_bind, Sem.run_pure, Result.andThen_ok]
  exact h
end
theorem famSize_cases (f : Int) : famSize f = 0 ∨ famSize f = 4 ∨ famSize f = 16 := by
  unfold famSize
  split
  · exact Or.inr (Or.inl rfl)
  · split
    · exact Or.inr (Or.inr rfl)
    · exact Or.inl rfl
/-- what is told of a next hop, by what counts -/
def nxt (K : Int) (self : Bool) (S : Int) (next addr : ByteArray) : ByteArray :=
  if K ≠ 2 ∧ self = false ∧ (next.size : Int) = S then next else if S = 0 ∨ addr.size ≠ 4 then ⟨#[]⟩ else if S = 16 then mapped ++ addr else addr
theorem nextF_nxt (g : Cfg) (p : Pth) (t : Pr) : nextF g p t = nxt (kindOf g t) t.selfNext (famSize p.n.fam) p.a.next g.addr := rfl

set_option maxRecDepth 100000 in
set_option maxHeartbeats 16000000 in
theorem next_any (g : Cfg) (p : Pth) (t : Pr) (w : World) : Calls Tryz.prog 18 #[.agg g.ar, .agg p.ar, .agg t.ar] w fun e w' => e = .returned (.string (nextF g p t)) ∧ Below w.heap.size w w' := by
  obtain ⟨P, hP⟩ : ∃ P, P = nextF g p t := ⟨_, rfl⟩
  rw [← hP]
  rw [nextF_nxt] at hP
  have hS3 := famSize_cases p.n.fam
  obtain ⟨S, hS⟩ : ∃ S, S = famSize p.n.fam := ⟨_, rfl⟩
  obtain ⟨K, hK⟩ : ∃ K, K = kindOf g t := ⟨_, rfl⟩
  rw [← hS, ← hK] at hP
  rw [← hS] at hS3
  have HSZ : Hid (∀ W, Calls Tryz.prog 48 #[.int .i64 p.n.fam] W fun e w' => e = .returned (.int .i64 S) ∧ w' = W) := fun W => by rw [hS]; exact psize_any p.n.fam W
  have HK : Hid (∀ W, Calls Tryz.prog 31 #[.agg g.ar, .agg t.ar] W fun e w' => e = .returned (.int .i64 K) ∧ Below W.heap.size W w') := fun W => by rw [hK]; exact internal_any g t W
  unfold nxt at hP
  have HP := Lib.hid hP
  have HS3 := Lib.hid hS3
  clear hP hS3 hS hK
  go_enter Tryz.func18, Tryz.ntmps18
  go_upto_region 1 with fail
  refine rb_name fun V0 hV0 => ?_
  have hbx := Bx.start w g p t
  obtain ⟨s, hs⟩ : ∃ s, s = w.heap.size := ⟨_, rfl⟩
  have HB0 : Hid (Bx w V0 s g p t) := by rw [hV0, hs]; exact hbx
  rw [← hs]
  clear hV0 hbx hs
  obtain ⟨c0, c4, c5, c8, c16, c22, c23, c25⟩ := pth_cells HB0.out.p
  go_wp2_with fail
  refine (HSZ.out _).mono ?_
  rintro e w1 ⟨rfl, hw1⟩
  subst w1
  go_wp2_with (with_reducible show wpList _ _ _ (_ :: _) _ _; first | refine wpList_load_conf (by kernel_rfl) (.tmp 3) rfl s rfl g (Lib.hid HB0.out.c) ?_ | refine wpList_load_peer (by kernel_rfl) (.tmp 5) rfl (s + 1 + 1) rfl t (Lib.hid HB0.out.t) ?_)
  refine (HK.out _).mono ?_
  rintro e w1 ⟨rfl, hw1⟩
  have HB1 : Hid (Bx w w1 s g p t) := HB0.out.below hw1
  clear hw1 HB0 c0 c4 c5 c8 c16 c22 c23 c25
  obtain ⟨c0, c4, c5, c8, c16, c22, c23, c25⟩ := pth_cells HB1.out.p
  obtain ⟨t0, t12, t22⟩ := pr_cells HB1.out.t
  obtain ⟨g0, g1, g2, g4, g5⟩ := cfg_cells HB1.out.c
  by_cases h1 : K = 2
  · have e1 : (K == 2) = true := beq_iff_eq.2 h1
    have e1b : (K != 2) = false := by rw [bne, e1]; rfl
    have HP2 : Hid (P = (if S = 0 ∨ g.addr.size ≠ 4 then ⟨#[]⟩ else if S = 16 then mapped ++ g.addr else g.addr)) := by show _ = _; rw [HP.out, if_neg (by simp [h1])]
    clear h1
    by_cases h4 : S = 0
    · have e4 : (S == 0) = true := beq_iff_eq.2 h4
      obtain rfl : P = ⟨#[]⟩ := by rw [HP2.out, if_pos (Or.inl h4)]
      clear HP HP2 HS3 h4
      go_wp2_with fail
      go_ret
      exact ⟨rfl, HB1.out.b⟩
    have e4 : (S == 0) = false := beq_eq_false_iff_ne.2 h4
    by_cases h5 : g.addr.size = 4
    · have e5 : ((g.addr.size : Int) == 4) = true := beq_iff_eq.2 (by omega)
      have e5b : ((g.addr.size : Int) != 4) = false := by rw [bne, e5]; rfl
      have e5c : (g.addr.size == 4) = true := beq_iff_eq.2 h5
      have e5d : (g.addr.size != 4) = false := by rw [bne, e5c]; rfl
      by_cases h6 : S = 16
      · obtain rfl : P = mapped ++ g.addr := by rw [HP2.out, if_neg (by omega), if_pos h6]
        have HH5 := Lib.hid h5
        subst h6
        have hlt : ¬ (9223372036854775807 < 12 + (g.addr.size : Int)) := by omega
        have hlt2 : ¬ (9223372036854775807 < 12 + g.addr.size) := by omega
        have hlt3 : 12 + g.addr.size ≤ 9223372036854775807 := by omega
        clear HP HP2 HS3 h4 h5
        go_upto_region 8 with fail
        have HCS := Lib.hid HB1.out.c
        refine wp_region_held_drew (S := fun w' => CellsAt w' s g.ar 49 ∧ Below w.heap.size w w') (by kernel_rfl) (⟨HB1.out.c.drew 1, below_drewN HB1.out.b 1⟩) (fun hHeld => ?_)
        refine wpAnyH_take (i := 3) (oi := { dst := some 46, op := Op.fieldAddr 49 (Operand.tmp 3) 5, type := 0, pos := "export.go:54", after := #[], guard := none }) (v := ?_) rfl (by kernel_rfl) (by kernel_rfl) (by kernel_rfl) (fun _ _ _ h => h) (Or.inl ⟨by rfl, ?_⟩) hHeld ?_
        rotate_left
        · intro w hSw
          clear hSw
          go_simp
          try with_reducible rfl
        try simp only [Act.put, List.setIfInBounds_toArray, List.set_cons_zero, List.set_cons_succ]
        refine wpAnyH_take (i := 4) (oi := { dst := some 47, op := Op.load 9 (Operand.tmp 46), type := 9, pos := "export.go:54", after := #[{ on := 3, ground := Ground.data }], guard := none }) (v := ?_) rfl (by kernel_rfl) (by kernel_rfl) (by kernel_rfl) (fun _ _ _ h => h) (Or.inl ⟨by rfl, ?_⟩) hHeld ?_
        rotate_left
        · intro w hSw
          obtain ⟨g0, g1, g2, g4, g5⟩ := cfg_cells hSw.1
          go_simp
          try with_reducible rfl
        try simp only [Act.put, List.setIfInBounds_toArray, List.set_cons_zero, List.set_cons_succ]
        refine wpAnyH_ready (rs := [0]) (by kernel_rfl) (by simp) ?_
        refine AllReadyH.cons (o := { dst := some 43, op := Op.makeSlice 64 (Operand.const (Value.int IntKind.i64 10)) (Operand.const (Value.int IntKind.i64 10)), type := 64, pos := "export.go:54", after := #[], guard := none }) rfl (fun K hK => ?_) AllReadyH.nil
        refine wp_make0 (by rfl) _ _ rfl 10 (by rfl) (by rfl) (by omega) ?_
        intro u1 HC hb
        refine hK.out _ _ (⟨hHeld.1.below hb hHeld.1.lt, hHeld.2.trans (hb.mono hHeld.2.size)⟩) (fun hHeld => ?_)
        clear hK K
        try simp only [Act.put, List.setIfInBounds_toArray, List.set_cons_zero, List.set_cons_succ]
        refine wpAnyH_ready (rs := [1]) (by kernel_rfl) (by simp) ?_
        refine AllReadyH.cons (o := { dst := some 44, op := Op.convert 64 9 (Operand.tmp 43), type := 9, pos := "export.go:54", after := #[{ on := 0, ground := Ground.data }], guard := none }) rfl (fun K hK => ?_) AllReadyH.nil
        refine wp_convb (by rfl) _ rfl _ 10 (List.replicate 10 0) (by rfl) rfl HC ?_
        refine hK.out _ _ (hHeld) (fun hHeld => ?_)
        clear hK K
        try simp only [Act.put, List.setIfInBounds_toArray, List.set_cons_zero, List.set_cons_succ]
        refine wpAnyH_take (i := 2) (oi := { dst := some 45, op := Op.binOp BinOp.add 9 (Operand.tmp 44) (Operand.const (Value.string { data := #[255, 255] })) 9, type := 9, pos := "export.go:54", after := #[{ on := 1, ground := Ground.data }], guard := none }) (v := .string (⟨(List.replicate 10 0).toArray⟩ ++ ⟨#[255, 255]⟩)) rfl (by kernel_rfl) (by kernel_rfl) (by kernel_rfl) (fun _ _ _ h => h) (Or.inl ⟨by rfl, ?_⟩) hHeld ?_
        · intro w hSw
          clear hSw
          go_simp
          skip
        try simp only [Act.put, List.setIfInBounds_toArray, List.set_cons_zero, List.set_cons_succ]
        refine wpAnyH_take (i := 5) (oi := { dst := some 48, op := Op.binOp BinOp.add 9 (Operand.tmp 45) (Operand.tmp 47) 9, type := 9, pos := "export.go:54", after := #[{ on := 2, ground := Ground.data }, { on := 4, ground := Ground.data }], guard := none }) (v := .string (mapped ++ g.addr)) rfl (by kernel_rfl) (by kernel_rfl) (by kernel_rfl) (fun _ _ _ h => h) (Or.inl ⟨by rfl, ?_⟩) hHeld ?_
        · intro w hSw
          clear hSw
          go_simp
          rfl
        try simp only [Act.put, List.setIfInBounds_toArray, List.set_cons_zero, List.set_cons_succ]
        refine wpAnyH_take (i := 6) (oi := { dst := some 6, op := Op.assign (Operand.tmp 48), type := 9, pos := "export.go:54", after := #[{ on := 5, ground := Ground.data }, { on := 0, ground := Ground.phase }, { on := 1, ground := Ground.phase }, { on := 2, ground := Ground.phase }, { on := 3, ground := Ground.phase }, { on := 4, ground := Ground.phase }, { on := 5, ground := Ground.phase }], guard := none }) (v := ?_) rfl (by kernel_rfl) (by kernel_rfl) (by kernel_rfl) (fun _ _ _ h => h) (Or.inl ⟨by rfl, ?_⟩) hHeld ?_
        rotate_left
        · intro w hSw
          clear hSw
          go_simp
          try with_reducible rfl
        try simp only [Act.put, List.setIfInBounds_toArray, List.set_cons_zero, List.set_cons_succ]
        refine wpAnyH_done (by kernel_rfl) ?_ _
        have HBE := Lib.hid hHeld
        clear hHeld
        go_wp2_with fail
        go_ret
        exact ⟨rfl, HBE.out.2⟩
      · have e6 : (S == 16) = false := beq_eq_false_iff_ne.2 h6
        obtain rfl : P = g.addr := by rw [HP2.out, if_neg (by omega), if_neg h6]
        clear HP HP2 HS3 h4 h5 h6
        go_wp2_with fail
        go_ret
        exact ⟨rfl, HB1.out.b⟩
    · have e5 : ((g.addr.size : Int) == 4) = false := beq_eq_false_iff_ne.2 (by omega)
      have e5b : ((g.addr.size : Int) != 4) = true := by rw [bne, e5]; rfl
      have e5c : (g.addr.size == 4) = false := beq_eq_false_iff_ne.2 h5
      have e5d : (g.addr.size != 4) = true := by rw [bne, e5c]; rfl
      obtain rfl : P = ⟨#[]⟩ := by rw [HP2.out, if_pos (Or.inr h5)]
      clear HP HP2 HS3 h4 h5
      go_wp2_with fail
      go_ret
      exact ⟨rfl, HB1.out.b⟩
  · have e1 : (K == 2) = false := beq_eq_false_iff_ne.2 h1
    have e1b : (K != 2) = true := by rw [bne, e1]; rfl
    cases h2 : t.selfNext with
    | true =>
      have HP2 : Hid (P = (if S = 0 ∨ g.addr.size ≠ 4 then ⟨#[]⟩ else if S = 16 then mapped ++ g.addr else g.addr)) := by show _ = _; rw [HP.out, if_neg (by simp [h2])]
      rw [h2] at t22
      clear h1 h2
      by_cases h4 : S = 0
      · have e4 : (S == 0) = true := beq_iff_eq.2 h4
        obtain rfl : P = ⟨#[]⟩ := by rw [HP2.out, if_pos (Or.inl h4)]
        clear HP HP2 HS3 h4
        go_wp2_with fail
        go_ret
        exact ⟨rfl, HB1.out.b⟩
      have e4 : (S == 0) = false := beq_eq_false_iff_ne.2 h4
      by_cases h5 : g.addr.size = 4
      · have e5 : ((g.addr.size : Int) == 4) = true := beq_iff_eq.2 (by omega)
        have e5b : ((g.addr.size : Int) != 4) = false := by rw [bne, e5]; rfl
        have e5c : (g.addr.size == 4) = true := beq_iff_eq.2 h5
        have e5d : (g.addr.size != 4) = false := by rw [bne, e5c]; rfl
        by_cases h6 : S = 16
        · obtain rfl : P = mapped ++ g.addr := by rw [HP2.out, if_neg (by omega), if_pos h6]
          have HH5 := Lib.hid h5
          subst h6
          have hlt : ¬ (9223372036854775807 < 12 + (g.addr.size : Int)) := by omega
          have hlt2 : ¬ (9223372036854775807 < 12 + g.addr.size) := by omega
          have hlt3 : 12 + g.addr.size ≤ 9223372036854775807 := by omega
          clear HP HP2 HS3 h4 h5
          go_upto_region 8 with fail
          have HCS := Lib.hid HB1.out.c
          refine wp_region_held_drew (S := fun w' => CellsAt w' s g.ar 49 ∧ Below w.heap.size w w') (by kernel_rfl) (⟨HB1.out.c.drew 1, below_drewN HB1.out.b 1⟩) (fun hHeld => ?_)
          refine wpAnyH_take (i := 3) (oi := { dst := some 46, op := Op.fieldAddr 49 (Operand.tmp 3) 5, type := 0, pos := "export.go:54", after := #[], guard := none }) (v := ?_) rfl (by kernel_rfl) (by kernel_rfl) (by kernel_rfl) (fun _ _ _ h => h) (Or.inl ⟨by rfl, ?_⟩) hHeld ?_
          rotate_left
          · intro w hSw
            clear hSw
            go_simp
            try with_reducible rfl
          try simp only [Act.put, List.setIfInBounds_toArray, List.set_cons_zero, List.set_cons_succ]
          refine wpAnyH_take (i := 4) (oi := { dst := some 47, op := Op.load 9 (Operand.tmp 46), type := 9, pos := "export.go:54", after := #[{ on := 3, ground := Ground.data }], guard := none }) (v := ?_) rfl (by kernel_rfl) (by kernel_rfl) (by kernel_rfl) (fun _ _ _ h => h) (Or.inl ⟨by rfl, ?_⟩) hHeld ?_
          rotate_left
          · intro w hSw
            obtain ⟨g0, g1, g2, g4, g5⟩ := cfg_cells hSw.1
            go_simp
            try with_reducible rfl
          try simp only [Act.put, List.setIfInBounds_toArray, List.set_cons_zero, List.set_cons_succ]
          refine wpAnyH_ready (rs := [0]) (by kernel_rfl) (by simp) ?_
          refine AllReadyH.cons (o := { dst := some 43, op := Op.makeSlice 64 (Operand.const (Value.int IntKind.i64 10)) (Operand.const (Value.int IntKind.i64 10)), type := 64, pos := "export.go:54", after := #[], guard := none }) rfl (fun K hK => ?_) AllReadyH.nil
          refine wp_make0 (by rfl) _ _ rfl 10 (by rfl) (by rfl) (by omega) ?_
          intro u1 HC hb
          refine hK.out _ _ (⟨hHeld.1.below hb hHeld.1.lt, hHeld.2.trans (hb.mono hHeld.2.size)⟩) (fun hHeld => ?_)
          clear hK K
          try simp only [Act.put, List.setIfInBounds_toArray, List.set_cons_zero, List.set_cons_succ]
          refine wpAnyH_ready (rs := [1]) (by kernel_rfl) (by simp) ?_
          refine AllReadyH.cons (o := { dst := some 44, op := Op.convert 64 9 (Operand.tmp 43), type := 9, pos := "export.go:54", after := #[{ on := 0, ground := Ground.data }], guard := none }) rfl (fun K hK => ?_) AllReadyH.nil
          refine wp_convb (by rfl) _ rfl _ 10 (List.replicate 10 0) (by rfl) rfl HC ?_
          refine hK.out _ _ (hHeld) (fun hHeld => ?_)
          clear hK K
          try simp only [Act.put, List.setIfInBounds_toArray, List.set_cons_zero, List.set_cons_succ]
          refine wpAnyH_take (i := 2) (oi := { dst := some 45, op := Op.binOp BinOp.add 9 (Operand.tmp 44) (Operand.const (Value.string { data := #[255, 255] })) 9, type := 9, pos := "export.go:54", after := #[{ on := 1, ground := Ground.data }], guard := none }) (v := .string (⟨(List.replicate 10 0).toArray⟩ ++ ⟨#[255, 255]⟩)) rfl (by kernel_rfl) (by kernel_rfl) (by kernel_rfl) (fun _ _ _ h => h) (Or.inl ⟨by rfl, ?_⟩) hHeld ?_
          · intro w hSw
            clear hSw
            go_simp
            skip
          try simp only [Act.put, List.setIfInBounds_toArray, List.set_cons_zero, List.set_cons_succ]
          refine wpAnyH_take (i := 5) (oi := { dst := some 48, op := Op.binOp BinOp.add 9 (Operand.tmp 45) (Operand.tmp 47) 9, type := 9, pos := "export.go:54", after := #[{ on := 2, ground := Ground.data }, { on := 4, ground := Ground.data }], guard := none }) (v := .string (mapped ++ g.addr)) rfl (by kernel_rfl) (by kernel_rfl) (by kernel_rfl) (fun _ _ _ h => h) (Or.inl ⟨by rfl, ?_⟩) hHeld ?_
          · intro w hSw
            clear hSw
            go_simp
            rfl
          try simp only [Act.put, List.setIfInBounds_toArray, List.set_cons_zero, List.set_cons_succ]
          refine wpAnyH_take (i := 6) (oi := { dst := some 6, op := Op.assign (Operand.tmp 48), type := 9, pos := "export.go:54", after := #[{ on := 5, ground := Ground.data }, { on := 0, ground := Ground.phase }, { on := 1, ground := Ground.phase }, { on := 2, ground := Ground.phase }, { on := 3, ground := Ground.phase }, { on := 4, ground := Ground.phase }, { on := 5, ground := Ground.phase }], guard := none }) (v := ?_) rfl (by kernel_rfl) (by kernel_rfl) (by kernel_rfl) (fun _ _ _ h => h) (Or.inl ⟨by rfl, ?_⟩) hHeld ?_
          rotate_left
          · intro w hSw
            clear hSw
            go_simp
            try with_reducible rfl
          try simp only [Act.put, List.setIfInBounds_toArray, List.set_cons_zero, List.set_cons_succ]
          refine wpAnyH_done (by kernel_rfl) ?_ _
          have HBE := Lib.hid hHeld
          clear hHeld
          go_wp2_with fail
          go_ret
          exact ⟨rfl, HBE.out.2⟩
        · have e6 : (S == 16) = false := beq_eq_false_iff_ne.2 h6
          obtain rfl : P = g.addr := by rw [HP2.out, if_neg (by omega), if_neg h6]
          clear HP HP2 HS3 h4 h5 h6
          go_wp2_with fail
          go_ret
          exact ⟨rfl, HB1.out.b⟩
      · have e5 : ((g.addr.size : Int) == 4) = false := beq_eq_false_iff_ne.2 (by omega)
        have e5b : ((g.addr.size : Int) != 4) = true := by rw [bne, e5]; rfl
        have e5c : (g.addr.size == 4) = false := beq_eq_false_iff_ne.2 h5
        have e5d : (g.addr.size != 4) = true := by rw [bne, e5c]; rfl
        obtain rfl : P = ⟨#[]⟩ := by rw [HP2.out, if_pos (Or.inr h5)]
        clear HP HP2 HS3 h4 h5
        go_wp2_with fail
        go_ret
        exact ⟨rfl, HB1.out.b⟩
    | false =>
      rw [h2] at t22
      by_cases h3 : (p.a.next.size : Int) = S
      · have e3 : ((p.a.next.size : Int) == S) = true := beq_iff_eq.2 h3
        obtain rfl : P = p.a.next := by rw [HP.out, if_pos ⟨h1, h2, h3⟩]
        clear HP h1 h2 h3 HS3
        go_wp2_with fail
        go_ret
        exact ⟨rfl, HB1.out.b⟩
      · have e3 : ((p.a.next.size : Int) == S) = false := beq_eq_false_iff_ne.2 h3
        have HP2 : Hid (P = (if S = 0 ∨ g.addr.size ≠ 4 then ⟨#[]⟩ else if S = 16 then mapped ++ g.addr else g.addr)) := by show _ = _; rw [HP.out, if_neg (by simp [h3])]
        clear h1 h2 h3
        by_cases h4 : S = 0
        · have e4 : (S == 0) = true := beq_iff_eq.2 h4
          obtain rfl : P = ⟨#[]⟩ := by rw [HP2.out, if_pos (Or.inl h4)]
          clear HP HP2 HS3 h4
          go_wp2_with fail
          go_ret
          exact ⟨rfl, HB1.out.b⟩
        have e4 : (S == 0) = false := beq_eq_false_iff_ne.2 h4
        by_cases h5 : g.addr.size = 4
        · have e5 : ((g.addr.size : Int) == 4) = true := beq_iff_eq.2 (by omega)
          have e5b : ((g.addr.size : Int) != 4) = false := by rw [bne, e5]; rfl
          have e5c : (g.addr.size == 4) = true := beq_iff_eq.2 h5
          have e5d : (g.addr.size != 4) = false := by rw [bne, e5c]; rfl
          by_cases h6 : S = 16
          · obtain rfl : P = mapped ++ g.addr := by rw [HP2.out, if_neg (by omega), if_pos h6]
            have HH5 := Lib.hid h5
            subst h6
            have hlt : ¬ (9223372036854775807 < 12 + (g.addr.size : Int)) := by omega
            have hlt2 : ¬ (9223372036854775807 < 12 + g.addr.size) := by omega
            have hlt3 : 12 + g.addr.size ≤ 9223372036854775807 := by omega
            clear HP HP2 HS3 h4 h5
            go_upto_region 8 with fail
            have HCS := Lib.hid HB1.out.c
            refine wp_region_held_drew (S := fun w' => CellsAt w' s g.ar 49 ∧ Below w.heap.size w w') (by kernel_rfl) (⟨HB1.out.c.drew 1, below_drewN HB1.out.b 1⟩) (fun hHeld => ?_)
            refine wpAnyH_take (i := 3) (oi := { dst := some 46, op := Op.fieldAddr 49 (Operand.tmp 3) 5, type := 0, pos := "export.go:54", after := #[], guard := none }) (v := ?_) rfl (by kernel_rfl) (by kernel_rfl) (by kernel_rfl) (fun _ _ _ h => h) (Or.inl ⟨by rfl, ?_⟩) hHeld ?_
            rotate_left
            · intro w hSw
              clear hSw
              go_simp
              try with_reducible rfl
            try simp only [Act.put, List.setIfInBounds_toArray, List.set_cons_zero, List.set_cons_succ]
            refine wpAnyH_take (i := 4) (oi := { dst := some 47, op := Op.load 9 (Operand.tmp 46), type := 9, pos := "export.go:54", after := #[{ on := 3, ground := Ground.data }], guard := none }) (v := ?_) rfl (by kernel_rfl) (by kernel_rfl) (by kernel_rfl) (fun _ _ _ h => h) (Or.inl ⟨by rfl, ?_⟩) hHeld ?_
            rotate_left
            · intro w hSw
              obtain ⟨g0, g1, g2, g4, g5⟩ := cfg_cells hSw.1
              go_simp
              try with_reducible rfl
            try simp only [Act.put, List.setIfInBounds_toArray, List.set_cons_zero, List.set_cons_succ]
            refine wpAnyH_ready (rs := [0]) (by kernel_rfl) (by simp) ?_
            refine AllReadyH.cons (o := { dst := some 43, op := Op.makeSlice 64 (Operand.const (Value.int IntKind.i64 10)) (Operand.const (Value.int IntKind.i64 10)), type := 64, pos := "export.go:54", after := #[], guard := none }) rfl (fun K hK => ?_) AllReadyH.nil
            refine wp_make0 (by rfl) _ _ rfl 10 (by rfl) (by rfl) (by omega) ?_
            intro u1 HC hb
            refine hK.out _ _ (⟨hHeld.1.below hb hHeld.1.lt, hHeld.2.trans (hb.mono hHeld.2.size)⟩) (fun hHeld => ?_)
            clear hK K
            try simp only [Act.put, List.setIfInBounds_toArray, List.set_cons_zero, List.set_cons_succ]
            refine wpAnyH_ready (rs := [1]) (by kernel_rfl) (by simp) ?_
            refine AllReadyH.cons (o := { dst := some 44, op := Op.convert 64 9 (Operand.tmp 43), type := 9, pos := "export.go:54", after := #[{ on := 0, ground := Ground.data }], guard := none }) rfl (fun K hK => ?_) AllReadyH.nil
            refine wp_convb (by rfl) _ rfl _ 10 (List.replicate 10 0) (by rfl) rfl HC ?_
            refine hK.out _ _ (hHeld) (fun hHeld => ?_)
            clear hK K
            try simp only [Act.put, List.setIfInBounds_toArray, List.set_cons_zero, List.set_cons_succ]
            refine wpAnyH_take (i := 2) (oi := { dst := some 45, op := Op.binOp BinOp.add 9 (Operand.tmp 44) (Operand.const (Value.string { data := #[255, 255] })) 9, type := 9, pos := "export.go:54", after := #[{ on := 1, ground := Ground.data }], guard := none }) (v := .string (⟨(List.replicate 10 0).toArray⟩ ++ ⟨#[255, 255]⟩)) rfl (by kernel_rfl) (by kernel_rfl) (by kernel_rfl) (fun _ _ _ h => h) (Or.inl ⟨by rfl, ?_⟩) hHeld ?_
            · intro w hSw
              clear hSw
              go_simp
              skip
            try simp only [Act.put, List.setIfInBounds_toArray, List.set_cons_zero, List.set_cons_succ]
            refine wpAnyH_take (i := 5) (oi := { dst := some 48, op := Op.binOp BinOp.add 9 (Operand.tmp 45) (Operand.tmp 47) 9, type := 9, pos := "export.go:54", after := #[{ on := 2, ground := Ground.data }, { on := 4, ground := Ground.data }], guard := none }) (v := .string (mapped ++ g.addr)) rfl (by kernel_rfl) (by kernel_rfl) (by kernel_rfl) (fun _ _ _ h => h) (Or.inl ⟨by rfl, ?_⟩) hHeld ?_
            · intro w hSw
              clear hSw
              go_simp
              rfl
            try simp only [Act.put, List.setIfInBounds_toArray, List.set_cons_zero, List.set_cons_succ]
            refine wpAnyH_take (i := 6) (oi := { dst := some 6, op := Op.assign (Operand.tmp 48), type := 9, pos := "export.go:54", after := #[{ on := 5, ground := Ground.data }, { on := 0, ground := Ground.phase }, { on := 1, ground := Ground.phase }, { on := 2, ground := Ground.phase }, { on := 3, ground := Ground.phase }, { on := 4, ground := Ground.phase }, { on := 5, ground := Ground.phase }], guard := none }) (v := ?_) rfl (by kernel_rfl) (by kernel_rfl) (by kernel_rfl) (fun _ _ _ h => h) (Or.inl ⟨by rfl, ?_⟩) hHeld ?_
            rotate_left
            · intro w hSw
              clear hSw
              go_simp
              try with_reducible rfl
            try simp only [Act.put, List.setIfInBounds_toArray, List.set_cons_zero, List.set_cons_succ]
            refine wpAnyH_done (by kernel_rfl) ?_ _
            have HBE := Lib.hid hHeld
            clear hHeld
            go_wp2_with fail
            go_ret
            exact ⟨rfl, HBE.out.2⟩
          · have e6 : (S == 16) = false := beq_eq_false_iff_ne.2 h6
            obtain rfl : P = g.addr := by rw [HP2.out, if_neg (by omega), if_neg h6]
            clear HP HP2 HS3 h4 h5 h6
            go_wp2_with fail
            go_ret
            exact ⟨rfl, HB1.out.b⟩
        · have e5 : ((g.addr.size : Int) == 4) = false := beq_eq_false_iff_ne.2 (by omega)
          have e5b : ((g.addr.size : Int) != 4) = true := by rw [bne, e5]; rfl
          have e5c : (g.addr.size == 4) = false := beq_eq_false_iff_ne.2 h5
          have e5d : (g.addr.size != 4) = true := by rw [bne, e5c]; rfl
          obtain rfl : P = ⟨#[]⟩ := by rw [HP2.out, if_pos (Or.inr h5)]
          clear HP HP2 HS3 h4 h5
          go_wp2_with fail
          go_ret
          exact ⟨rfl, HB1.out.b⟩
end Go.Proofs.YtojiieghjhjoaaaGreat
