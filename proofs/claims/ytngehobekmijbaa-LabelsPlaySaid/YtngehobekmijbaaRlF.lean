/-
  Labels: the reference's Give. Conditions: sizes.
-/
import Derived.Test.YtngehobekmijbaaRlE
set_option linter.unusedVariables false
set_option linter.unusedSimpArgs false
namespace Go.Proofs.Ytngehobekmijbaa
open Go.RowKit Go.MapKept

/-- the list without a key -/
noncomputable def gvM (M : List (LK × Nat)) (k : LK) : List (LK × Nat) := by
  classical
  exact M.filter fun p => decide (p.1 ≠ k)
theorem gvM_snoc_no (M : List (LK × Nat)) (k : LK) (p : LK × Nat) (h : p.1 ≠ k) : gvM (M ++ [p]) k = gvM M k ++ [p] := by simp [gvM, List.filter_append, h]
theorem gvM_snoc_is (M : List (LK × Nat)) (k : LK) (p : LK × Nat) (h : p.1 = k) : gvM (M ++ [p]) k = gvM M k := by simp [gvM, List.filter_append, h]
theorem gvM_le (M : List (LK × Nat)) (k : LK) : (gvM M k).length ≤ M.length := List.length_filter_le _ _
theorem gvM_mem {M : List (LK × Nat)} {k : LK} {p : LK × Nat} : p ∈ gvM M k ↔ p ∈ M ∧ p.1 ≠ k := by simp [gvM, List.mem_filter]
def RGive (M : List (LK × Nat)) (k : LK) (w : World) (e : Ending) (w' : World) : Prop :=
  ∃ v', e = .returned (.tuple #[v', .bool (decide ((gvM M k).length < M.length))]) ∧ Held w' w.heap.size v' (gvM M k) ∧ Below w.heap.size w w'

set_option maxHeartbeats 2000000 in
theorem rgive_any (M : List (LK × Nat)) (base : Nat) (v : Value) (k : LK) (w : World) (hk : k.Ok) (h : Held w base v M) (hM : M.length ≤ 1000000) :
    Calls Try.prog 16 #[v, k.v] w (RGive M k w) := by
  obtain ⟨i0, hi, hz0, hz1, hz2⟩ := info_parts infoHeld
  obtain ⟨A, cap, rfl⟩ := OwnM.form h
  have HH0 : Hid (Held _ base _ M) := h.alloc (.cells #[.string k.vrf, .int .i64 k.fam, .int .u64 k.rd, .string k.addr, .int .i64 k.len] 34)
  have HC0 := Lib.hid (CellsAt.new w #[.string k.vrf, .int .i64 k.fam, .int .u64 k.rd, .string k.addr, .int .i64 k.len] 34)
  have HLT := Lib.hid (fun g (hg : (Value.slice A M.length cap).ownBlock = some g) => (h.lt g hg).2)
  clear h hk
  have HW0 : Hid (Below w.heap.size w (w.alloc (.cells #[.string k.vrf, .int .i64 k.fam, .int .u64 k.rd, .string k.addr, .int .i64 k.len] 34))) := by
    show Below _ _ _
    go_grown
  unfold LK.v
  go_enter Try.func16, Try.ntmps16
  go_wp2_with fail
  go_loopw [6, 7] (fun o x wr => ∃ j : Nat, j ≤ M.length ∧ x = .int .i64 j ∧ Hid (Held wr base (.slice A M.length cap) M) ∧ Hid (CellsAt wr w.heap.size #[.string k.vrf, .int .i64 k.fam, .int .u64 k.rd, .string k.addr, .int .i64 k.len] 34) ∧ Hid (Held wr (w.heap.size + 1) o (gvM (M.take j) k)) ∧ Hid (Below w.heap.size w wr)) (fun _ x _ => M.length + 1 - (intOf x).toNat)
  case atStart => exact ⟨0, by omega, rfl, HH0.out, HC0.out, by show Held _ _ _ _; exact OwnM.nil _ _ _ _, HW0.out⟩
  case round =>
    obtain ⟨j, hj, rfl, HH, HC, HO, HW⟩ := hrel
    clear HH0 HC0 HW0
    have hg1 := gvM_le (M.take j) k
    rw [List.length_take, Nat.min_eq_left hj] at hg1
    by_cases hlt : j < M.length
    · obtain ⟨p, hp⟩ : ∃ p, M[j]? = some p := ⟨M[j], List.getElem?_eq_getElem hlt⟩
      have HT : Hid (M.take (j + 1) = M.take j ++ [p]) := by
        show _ = _
        rw [List.take_add_one, hp]
        rfl
      obtain ⟨kp, np⟩ := p
      by_cases hne : kp = k
      · subst hne
        have HG := Lib.hid (gvM_snoc_is (M.take j) kp (kp, np) rfl)
        rw [← HT.out] at HG
        obtain ⟨g2, cap2, hv2, _, _, _, _, _, c0, c1, c2, c3, c4, c5⟩ := Held.at_ HH.out hp
        simp only [Value.slice.injEq] at hv2
        obtain ⟨rfl, _, rfl⟩ := hv2
        obtain ⟨k0, k1, k2, k3, k4⟩ := HC.out.c5
        clear HT hp
        go_wp2_with fail
        refine wp_region_held_drew (S := fun w' => ∃ nd, w' = wr.drewN nd) (by kernel_rfl) (⟨1, rfl⟩) (fun hHeld => ?_)
        refine wpAnyH_take (i := 0) (oi := { dst := some 14, op := Op.move (Operand.tmp 0), type := 46, pos := "ref.go:63", after := #[], guard := none }) (v := ?_) rfl (by kernel_rfl) (by kernel_rfl) (by kernel_rfl) (fun _ _ _ h => h) (Or.inl ⟨by rfl, ?_⟩) hHeld ?_
        rotate_left
        · intro w hSw
          clear hSw
          go_simp
          try with_reducible rfl
        try simp only [Act.put, List.setIfInBounds_toArray, List.set_cons_zero, List.set_cons_succ]
        refine wpAnyH_take (i := 1) (oi := { dst := some 15, op := Op.move (Operand.tmp 7), type := 3, pos := "ref.go:63", after := #[], guard := none }) (v := ?_) rfl (by kernel_rfl) (by kernel_rfl) (by kernel_rfl) (fun _ _ _ h => h) (Or.inl ⟨by rfl, ?_⟩) hHeld ?_
        rotate_left
        · intro w hSw
          clear hSw
          go_simp
          try with_reducible rfl
        try simp only [Act.put, List.setIfInBounds_toArray, List.set_cons_zero, List.set_cons_succ]
        refine wpAnyH_take (i := 2) (oi := { dst := some 16, op := Op.indexAddr 46 (Operand.tmp 14) (Operand.tmp 15), type := 0, pos := "ref.go:63", after := #[{ on := 0, ground := Ground.data }, { on := 1, ground := Ground.data }], guard := none }) (v := ?_) rfl (by kernel_rfl) (by kernel_rfl) (by kernel_rfl) (fun _ _ _ h => h) (Or.inl ⟨by rfl, ?_⟩) hHeld ?_
        rotate_left
        · intro w hSw
          clear hSw
          go_simp
          try with_reducible rfl
        try simp only [Act.put, List.setIfInBounds_toArray, List.set_cons_zero, List.set_cons_succ]
        refine wpAnyH_take (i := 3) (oi := { dst := some 17, op := Op.fieldAddr 63 (Operand.tmp 16) 0, type := 0, pos := "ref.go:63", after := #[{ on := 2, ground := Ground.data }], guard := none }) (v := ?_) rfl (by kernel_rfl) (by kernel_rfl) (by kernel_rfl) (fun _ _ _ h => h) (Or.inl ⟨by rfl, ?_⟩) hHeld ?_
        rotate_left
        · intro w hSw
          clear hSw
          go_simp
          try with_reducible rfl
        try simp only [Act.put, List.setIfInBounds_toArray, List.set_cons_zero, List.set_cons_succ]
        refine wpAnyH_take (i := 4) (oi := { dst := some 18, op := Op.load 34 (Operand.tmp 17), type := 34, pos := "ref.go:63", after := #[{ on := 3, ground := Ground.data }], guard := none }) (v := ?_) rfl (by kernel_rfl) (by kernel_rfl) (by kernel_rfl) (fun _ _ _ h => h) (Or.inl ⟨by rfl, ?_⟩) hHeld ?_
        rotate_left
        · intro w hSw
          obtain ⟨nd, rfl⟩ := hSw
          go_simp
          try with_reducible rfl
        try simp only [Act.put, List.setIfInBounds_toArray, List.set_cons_zero, List.set_cons_succ]
        refine wpAnyH_take (i := 5) (oi := { dst := some 19, op := Op.load 34 (Operand.tmp 3), type := 34, pos := "ref.go:63", after := #[], guard := none }) (v := ?_) rfl (by kernel_rfl) (by kernel_rfl) (by kernel_rfl) (fun _ _ _ h => h) (Or.inl ⟨by rfl, ?_⟩) hHeld ?_
        rotate_left
        · intro w hSw
          obtain ⟨nd, rfl⟩ := hSw
          go_simp
          try with_reducible rfl
        try simp only [Act.put, List.setIfInBounds_toArray, List.set_cons_zero, List.set_cons_succ]
        refine wpAnyH_take (i := 6) (oi := { dst := some 20, op := Op.binOp BinOp.neq 34 (Operand.tmp 18) (Operand.tmp 19) 34, type := 4, pos := "ref.go:63", after := #[{ on := 4, ground := Ground.data }, { on := 5, ground := Ground.data }], guard := none }) (v := ?_) rfl (by kernel_rfl) (by kernel_rfl) (by kernel_rfl) (fun _ _ _ h => h) (Or.inl ⟨by rfl, ?_⟩) hHeld ?_
        rotate_left
        · intro w hSw
          clear hSw
          go_simp
          try with_reducible rfl
        try simp only [Act.put, List.setIfInBounds_toArray, List.set_cons_zero, List.set_cons_succ]
        refine wpAnyH_done (by kernel_rfl) ?_ _
        go_wp2_with fail
        exact ⟨⟨j + 1, by omega, by go_num, HH.out.drew, HC.out.drew 1, by rw [HG.out]; exact HO.out.drew, below_drewN HW.out 1⟩, by simp [intOf]; omega⟩
      · have HG := Lib.hid (gvM_snoc_no (M.take j) k (kp, np) hne)
        rw [← HT.out] at HG
        obtain ⟨g2, cap2, hv2, _, hgs, _, _, _, c0, c1, c2, c3, c4, c5⟩ := Held.at_ HH.out hp
        simp only [Value.slice.injEq] at hv2
        obtain ⟨rfl, _, rfl⟩ := hv2
        obtain ⟨k0, k1, k2, k3, k4⟩ := HC.out.c5
        obtain ⟨A2, cp2, rfl⟩ := OwnM.form HO.out
        clear HT hp
        go_wp2_with fail
        refine wp_region_held_drew (S := fun w' => ∃ nd, w' = wr.drewN nd) (by kernel_rfl) (⟨1, rfl⟩) (fun hHeld => ?_)
        refine wpAnyH_take (i := 0) (oi := { dst := some 14, op := Op.move (Operand.tmp 0), type := 46, pos := "ref.go:63", after := #[], guard := none }) (v := ?_) rfl (by kernel_rfl) (by kernel_rfl) (by kernel_rfl) (fun _ _ _ h => h) (Or.inl ⟨by rfl, ?_⟩) hHeld ?_
        rotate_left
        · intro w hSw
          clear hSw
          go_simp
          try with_reducible rfl
        try simp only [Act.put, List.setIfInBounds_toArray, List.set_cons_zero, List.set_cons_succ]
        refine wpAnyH_take (i := 1) (oi := { dst := some 15, op := Op.move (Operand.tmp 7), type := 3, pos := "ref.go:63", after := #[], guard := none }) (v := ?_) rfl (by kernel_rfl) (by kernel_rfl) (by kernel_rfl) (fun _ _ _ h => h) (Or.inl ⟨by rfl, ?_⟩) hHeld ?_
        rotate_left
        · intro w hSw
          clear hSw
          go_simp
          try with_reducible rfl
        try simp only [Act.put, List.setIfInBounds_toArray, List.set_cons_zero, List.set_cons_succ]
        refine wpAnyH_take (i := 2) (oi := { dst := some 16, op := Op.indexAddr 46 (Operand.tmp 14) (Operand.tmp 15), type := 0, pos := "ref.go:63", after := #[{ on := 0, ground := Ground.data }, { on := 1, ground := Ground.data }], guard := none }) (v := ?_) rfl (by kernel_rfl) (by kernel_rfl) (by kernel_rfl) (fun _ _ _ h => h) (Or.inl ⟨by rfl, ?_⟩) hHeld ?_
        rotate_left
        · intro w hSw
          clear hSw
          go_simp
          try with_reducible rfl
        try simp only [Act.put, List.setIfInBounds_toArray, List.set_cons_zero, List.set_cons_succ]
        refine wpAnyH_take (i := 3) (oi := { dst := some 17, op := Op.fieldAddr 63 (Operand.tmp 16) 0, type := 0, pos := "ref.go:63", after := #[{ on := 2, ground := Ground.data }], guard := none }) (v := ?_) rfl (by kernel_rfl) (by kernel_rfl) (by kernel_rfl) (fun _ _ _ h => h) (Or.inl ⟨by rfl, ?_⟩) hHeld ?_
        rotate_left
        · intro w hSw
          clear hSw
          go_simp
          try with_reducible rfl
        try simp only [Act.put, List.setIfInBounds_toArray, List.set_cons_zero, List.set_cons_succ]
        refine wpAnyH_take (i := 4) (oi := { dst := some 18, op := Op.load 34 (Operand.tmp 17), type := 34, pos := "ref.go:63", after := #[{ on := 3, ground := Ground.data }], guard := none }) (v := ?_) rfl (by kernel_rfl) (by kernel_rfl) (by kernel_rfl) (fun _ _ _ h => h) (Or.inl ⟨by rfl, ?_⟩) hHeld ?_
        rotate_left
        · intro w hSw
          obtain ⟨nd, rfl⟩ := hSw
          go_simp
          try with_reducible rfl
        try simp only [Act.put, List.setIfInBounds_toArray, List.set_cons_zero, List.set_cons_succ]
        refine wpAnyH_take (i := 5) (oi := { dst := some 19, op := Op.load 34 (Operand.tmp 3), type := 34, pos := "ref.go:63", after := #[], guard := none }) (v := ?_) rfl (by kernel_rfl) (by kernel_rfl) (by kernel_rfl) (fun _ _ _ h => h) (Or.inl ⟨by rfl, ?_⟩) hHeld ?_
        rotate_left
        · intro w hSw
          obtain ⟨nd, rfl⟩ := hSw
          go_simp
          try with_reducible rfl
        try simp only [Act.put, List.setIfInBounds_toArray, List.set_cons_zero, List.set_cons_succ]
        refine wpAnyH_take (i := 6) (oi := { dst := some 20, op := Op.binOp BinOp.neq 34 (Operand.tmp 18) (Operand.tmp 19) 34, type := 4, pos := "ref.go:63", after := #[{ on := 4, ground := Ground.data }, { on := 5, ground := Ground.data }], guard := none }) (v := .bool true) rfl (by kernel_rfl) (by kernel_rfl) (by kernel_rfl) (fun _ _ _ h => h) (Or.inl ⟨by rfl, ?_⟩) hHeld ?_
        · intro w hSw
          clear hSw
          go_simp
          exact lk_no hne
        try simp only [Act.put, List.setIfInBounds_toArray, List.set_cons_zero, List.set_cons_succ]
        refine wpAnyH_done (by kernel_rfl) ?_ _
        go_wp2_with (at_builtin; refine wpList_append_m rfl (.tmp 21) (.tmp 26) 46 46 rfl (w.heap.size + 1) 63 i0 _ 6 64 Try.underlying46 hi hz0 hz1 hz2 rfl ?b0 _ (gvM (M.take j) k).length (heldV (gvM (M.take j) k)) rfl ?b1 _ 1 (heldV [(kp, np)]) rfl ?b2 ?b3 ?b4 ?b5 ?b6)
        case b0 => omega
        case b1 => exact (HO.out.drew).alloc _
        case b2 =>
          exact Src.new (w := wr.drew) _ _ Try.underlying46 rfl (fun u hu => heldV_one [(kp, np)] u hu)
        case b3 => (unfold maxLen; omega)
        case b4 => omega
        case b5 =>
          have := HW.out.size
          simp
          omega
        intro v' w5 hown hgr hat
        have HOWN := Lib.hid hown
        have HGR := Lib.hid hgr
        have hl2 := HO.out.lt
        have HA : Hid (CellsAt (wr.drew.alloc (.cells #[.string kp.vrf, .int .i64 kp.fam, .int .u64 kp.rd, .string kp.addr, .int .i64 kp.len, .int .u32 (np : Nat)] 63)) w.heap.size _ _) := (HC.out.drew 1).alloc _
        clear hown hgr hat c0 c1 c2 c3 c4 c5 k0 k1 k2 k3 k4
        go_wp2_with fail
        have hlen : (gvM (M.take (j + 1)) k).length = (gvM (M.take j) k).length + 1 := by rw [HG.out]; simp
        refine ⟨⟨j + 1, by omega, by go_num, ?_, ?_, ?_, ?_⟩, by simp [intOf]; omega⟩
        · exact OwnM.grown (OwnM.alloc HH.out.drew _) HGR.out (fun g hg e => by
            have h1 := HLT.out g hg
            have h2 := (HO.out.lt g e.symm).1
            omega)
        · exact (HGR.out.block _ HA.out.lt (fun e => by have h2 := (HO.out.lt _ e.symm).1; omega)).trans HA.out
        · have h := HOWN.out
          unfold Held
          rw [HG.out, heldV_append, List.length_append]
          exact h
        · exact OwnM.below_grown (w := wr.drew.alloc (.cells #[.string kp.vrf, .int .i64 kp.fam, .int .u64 kp.rd, .string kp.addr, .int .i64 kp.len, .int .u32 (np : Nat)] 63)) (HO.out.drew.alloc _) HGR.out ((below_drewN HW.out 1).alloc HW.out.size _) (by simp; have := HW.out.size; omega) (by omega)
    · obtain rfl : j = M.length := by omega
      rw [List.take_length] at HO hg1
      obtain ⟨A2, cp2, rfl⟩ := OwnM.form HO.out
      generalize hG : gvM M k = G at HO hg1
      have HGG := Lib.hid hG
      clear hG
      by_cases hlt2 : G.length < M.length
      · go_wp2_with fail
        go_ret2
        exact ⟨.slice A2 G.length cp2, by rw [HGG.out, decide_eq_true hlt2]; rfl, by rw [HGG.out]; exact HO.out.lower (by omega), HW.out⟩
      · go_wp2_with fail
        go_ret2
        exact ⟨.slice A2 G.length cp2, by rw [HGG.out, decide_eq_false hlt2]; rfl, by rw [HGG.out]; exact HO.out.lower (by omega), HW.out⟩
end Go.Proofs.Ytngehobekmijbaa
