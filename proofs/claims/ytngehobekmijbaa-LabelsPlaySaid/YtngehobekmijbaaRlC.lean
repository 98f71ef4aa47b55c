/-
  Labels: the reference's list of who has which: Of, Key. Conditions: sizes.
-/
import Derived.Test.YtngehobekmijbaaRlB
set_option linter.unusedVariables false
set_option linter.unusedSimpArgs false
namespace Go.Proofs.Ytngehobekmijbaa
open Go.RowKit Go.MapKept

theorem lk_no {a b : LK} (h : a ≠ b) : a.vrf.toList = b.vrf.toList → a.fam = b.fam → a.rd = b.rd → a.addr.toList = b.addr.toList → ¬ a.len = b.len := fun h1 h2 h3 h4 h5 => by
  have hb : ∀ s u : ByteArray, s.toList = u.toList → s = u := fun s u e => by
    rw [ByteArray.toList_eq, ByteArray.toList_eq] at e
    exact ByteArray.ext (Array.ext' e)
  exact h (by cases a; cases b; simp only at h1 h2 h3 h4 h5; rw [hb _ _ h1, h2, h3, hb _ _ h4, h5])
set_option maxHeartbeats 1000000 in
theorem rof_some (M : List (LK × Nat)) (base : Nat) (v : Value) (k : LK) (hk : k.Ok) (i n : Nat) (w : World) (h : Held w base v M) (hM : M.length ≤ 1000000) (hi : M[i]? = some (k, n)) (hn : ∀ j, j < i → ∀ p, M[j]? = some p → p.1 ≠ k) :
    Calls Try.prog 17 #[v, k.v] w fun e w' => e = .returned (.tuple #[.int .u32 n, .bool true]) ∧ Below w.heap.size w w' := by
  obtain ⟨g, cap, rfl, hb, hg, hnc, hcm, hl, _⟩ := h.at_ hi
  have HH := Lib.hid h
  have HK := Lib.hid hk
  have HN := Lib.hid hn
  have HI := Lib.hid hi
  unfold maxLen at hcm
  clear h hk hn hi
  unfold LK.v
  go_enter Try.func17, Try.ntmps17
  go_wp2_with fail
  go_loopw [6] (fun x wr => ∃ j q : Nat, j ≤ i ∧ x = .int .i64 j ∧ wr = (w.alloc (.cells #[.string k.vrf, .int .i64 k.fam, .int .u64 k.rd, .string k.addr, .int .i64 k.len] 34)).drewN q) (fun x _ => i + 1 - (intOf x).toNat)
  case atStart => exact ⟨0, 0, by omega, rfl, rfl⟩
  case round =>
    obtain ⟨j, q, hj, rfl, rfl⟩ := hrel
    by_cases hlt : j < i
    · obtain ⟨p, hp⟩ : ∃ p, M[j]? = some p := by
        have := HI.out
        have h2 := (List.getElem?_eq_some_iff.1 this).1
        exact ⟨M[j], List.getElem?_eq_getElem (by omega)⟩
      have hne := HN.out j hlt p hp
      obtain ⟨kp, np⟩ := p
      have HC : Hid (Held _ base _ M) := HH.out.alloc (.cells #[.string k.vrf, .int .i64 k.fam, .int .u64 k.rd, .string k.addr, .int .i64 k.len] 34)
      obtain ⟨g2, cap2, hv2, _, _, _, _, _, c0, c1, c2, c3, c4, c5⟩ := Held.at_ HC.out hp
      simp only [Value.slice.injEq, Option.some.injEq, Addr.mk.injEq] at hv2
      obtain ⟨⟨rfl, _⟩, _, rfl⟩ := hv2
      clear HC
      simp only at hne
      have hjl : j < M.length := by omega
      go_wp2_with fail
      refine wp_region_held_drew (S := fun w' => ∃ nd, w' = (w.alloc (.cells #[.string k.vrf, .int .i64 k.fam, .int .u64 k.rd, .string k.addr, .int .i64 k.len] 34)).drewN nd) (by kernel_rfl) (⟨q + 1, rfl⟩) (fun hHeld => ?_)
      refine wpAnyH_take (i := 0) (oi := { dst := some 13, op := Op.move (Operand.tmp 0), type := 46, pos := "ref.go:24", after := #[], guard := none }) (v := ?_) rfl (by kernel_rfl) (by kernel_rfl) (by kernel_rfl) (fun _ _ _ h => h) (Or.inl ⟨by rfl, ?_⟩) hHeld ?_
      rotate_left
      · intro w hSw
        clear hSw
        go_simp
        try with_reducible rfl
      try simp only [Act.put, List.setIfInBounds_toArray, List.set_cons_zero, List.set_cons_succ]
      refine wpAnyH_take (i := 1) (oi := { dst := some 14, op := Op.move (Operand.tmp 6), type := 3, pos := "ref.go:24", after := #[], guard := none }) (v := ?_) rfl (by kernel_rfl) (by kernel_rfl) (by kernel_rfl) (fun _ _ _ h => h) (Or.inl ⟨by rfl, ?_⟩) hHeld ?_
      rotate_left
      · intro w hSw
        clear hSw
        go_simp
        try with_reducible rfl
      try simp only [Act.put, List.setIfInBounds_toArray, List.set_cons_zero, List.set_cons_succ]
      refine wpAnyH_take (i := 2) (oi := { dst := some 15, op := Op.indexAddr 46 (Operand.tmp 13) (Operand.tmp 14), type := 0, pos := "ref.go:24", after := #[{ on := 0, ground := Ground.data }, { on := 1, ground := Ground.data }], guard := none }) (v := ?_) rfl (by kernel_rfl) (by kernel_rfl) (by kernel_rfl) (fun _ _ _ h => h) (Or.inl ⟨by rfl, ?_⟩) hHeld ?_
      rotate_left
      · intro w hSw
        clear hSw
        go_simp
        try with_reducible rfl
      try simp only [Act.put, List.setIfInBounds_toArray, List.set_cons_zero, List.set_cons_succ]
      refine wpAnyH_take (i := 3) (oi := { dst := some 16, op := Op.fieldAddr 63 (Operand.tmp 15) 0, type := 0, pos := "ref.go:24", after := #[{ on := 2, ground := Ground.data }], guard := none }) (v := ?_) rfl (by kernel_rfl) (by kernel_rfl) (by kernel_rfl) (fun _ _ _ h => h) (Or.inl ⟨by rfl, ?_⟩) hHeld ?_
      rotate_left
      · intro w hSw
        clear hSw
        go_simp
        try with_reducible rfl
      try simp only [Act.put, List.setIfInBounds_toArray, List.set_cons_zero, List.set_cons_succ]
      refine wpAnyH_take (i := 4) (oi := { dst := some 17, op := Op.load 34 (Operand.tmp 16), type := 34, pos := "ref.go:24", after := #[{ on := 3, ground := Ground.data }], guard := none }) (v := ?_) rfl (by kernel_rfl) (by kernel_rfl) (by kernel_rfl) (fun _ _ _ h => h) (Or.inl ⟨by rfl, ?_⟩) hHeld ?_
      rotate_left
      · intro w hSw
        obtain ⟨nd, rfl⟩ := hSw
        go_simp
        try with_reducible rfl
      try simp only [Act.put, List.setIfInBounds_toArray, List.set_cons_zero, List.set_cons_succ]
      refine wpAnyH_take (i := 5) (oi := { dst := some 18, op := Op.load 34 (Operand.tmp 3), type := 34, pos := "ref.go:24", after := #[], guard := none }) (v := ?_) rfl (by kernel_rfl) (by kernel_rfl) (by kernel_rfl) (fun _ _ _ h => h) (Or.inl ⟨by rfl, ?_⟩) hHeld ?_
      rotate_left
      · intro w hSw
        obtain ⟨nd, rfl⟩ := hSw
        go_simp
        try with_reducible rfl
      try simp only [Act.put, List.setIfInBounds_toArray, List.set_cons_zero, List.set_cons_succ]
      refine wpAnyH_take (i := 6) (oi := { dst := some 19, op := Op.binOp BinOp.eql 34 (Operand.tmp 17) (Operand.tmp 18) 34, type := 4, pos := "ref.go:24", after := #[{ on := 4, ground := Ground.data }, { on := 5, ground := Ground.data }], guard := none }) (v := .bool false) rfl (by kernel_rfl) (by kernel_rfl) (by kernel_rfl) (fun _ _ _ h => h) (Or.inl ⟨by rfl, ?_⟩) hHeld ?_
      · intro w hSw
        clear hSw
        go_simp
        exact lk_no hne
      try simp only [Act.put, List.setIfInBounds_toArray, List.set_cons_zero, List.set_cons_succ]
      refine wpAnyH_done (by kernel_rfl) ?_ _
      go_wp2_with fail
      exact ⟨⟨j + 1, q + 1, by omega, by go_num, rfl⟩, by simp [intOf]; omega⟩
    · obtain rfl : j = i := by omega
      have HC : Hid (Held _ base _ M) := HH.out.alloc (.cells #[.string k.vrf, .int .i64 k.fam, .int .u64 k.rd, .string k.addr, .int .i64 k.len] 34)
      obtain ⟨g2, cap2, hv2, _, _, _, _, _, c0, c1, c2, c3, c4, c5⟩ := Held.at_ HC.out HI.out
      simp only [Value.slice.injEq, Option.some.injEq, Addr.mk.injEq] at hv2
      obtain ⟨⟨rfl, _⟩, _, rfl⟩ := hv2
      clear HC
      have hjl : j < M.length := by omega
      go_wp2_with fail
      refine wp_region_held_drew (S := fun w' => ∃ nd, w' = (w.alloc (.cells #[.string k.vrf, .int .i64 k.fam, .int .u64 k.rd, .string k.addr, .int .i64 k.len] 34)).drewN nd) (by kernel_rfl) (⟨q + 1, rfl⟩) (fun hHeld => ?_)
      refine wpAnyH_take (i := 0) (oi := { dst := some 13, op := Op.move (Operand.tmp 0), type := 46, pos := "ref.go:24", after := #[], guard := none }) (v := ?_) rfl (by kernel_rfl) (by kernel_rfl) (by kernel_rfl) (fun _ _ _ h => h) (Or.inl ⟨by rfl, ?_⟩) hHeld ?_
      rotate_left
      · intro w hSw
        clear hSw
        go_simp
        try with_reducible rfl
      try simp only [Act.put, List.setIfInBounds_toArray, List.set_cons_zero, List.set_cons_succ]
      refine wpAnyH_take (i := 1) (oi := { dst := some 14, op := Op.move (Operand.tmp 6), type := 3, pos := "ref.go:24", after := #[], guard := none }) (v := ?_) rfl (by kernel_rfl) (by kernel_rfl) (by kernel_rfl) (fun _ _ _ h => h) (Or.inl ⟨by rfl, ?_⟩) hHeld ?_
      rotate_left
      · intro w hSw
        clear hSw
        go_simp
        try with_reducible rfl
      try simp only [Act.put, List.setIfInBounds_toArray, List.set_cons_zero, List.set_cons_succ]
      refine wpAnyH_take (i := 2) (oi := { dst := some 15, op := Op.indexAddr 46 (Operand.tmp 13) (Operand.tmp 14), type := 0, pos := "ref.go:24", after := #[{ on := 0, ground := Ground.data }, { on := 1, ground := Ground.data }], guard := none }) (v := ?_) rfl (by kernel_rfl) (by kernel_rfl) (by kernel_rfl) (fun _ _ _ h => h) (Or.inl ⟨by rfl, ?_⟩) hHeld ?_
      rotate_left
      · intro w hSw
        clear hSw
        go_simp
        try with_reducible rfl
      try simp only [Act.put, List.setIfInBounds_toArray, List.set_cons_zero, List.set_cons_succ]
      refine wpAnyH_take (i := 3) (oi := { dst := some 16, op := Op.fieldAddr 63 (Operand.tmp 15) 0, type := 0, pos := "ref.go:24", after := #[{ on := 2, ground := Ground.data }], guard := none }) (v := ?_) rfl (by kernel_rfl) (by kernel_rfl) (by kernel_rfl) (fun _ _ _ h => h) (Or.inl ⟨by rfl, ?_⟩) hHeld ?_
      rotate_left
      · intro w hSw
        clear hSw
        go_simp
        try with_reducible rfl
      try simp only [Act.put, List.setIfInBounds_toArray, List.set_cons_zero, List.set_cons_succ]
      refine wpAnyH_take (i := 4) (oi := { dst := some 17, op := Op.load 34 (Operand.tmp 16), type := 34, pos := "ref.go:24", after := #[{ on := 3, ground := Ground.data }], guard := none }) (v := ?_) rfl (by kernel_rfl) (by kernel_rfl) (by kernel_rfl) (fun _ _ _ h => h) (Or.inl ⟨by rfl, ?_⟩) hHeld ?_
      rotate_left
      · intro w hSw
        obtain ⟨nd, rfl⟩ := hSw
        go_simp
        try with_reducible rfl
      try simp only [Act.put, List.setIfInBounds_toArray, List.set_cons_zero, List.set_cons_succ]
      refine wpAnyH_take (i := 5) (oi := { dst := some 18, op := Op.load 34 (Operand.tmp 3), type := 34, pos := "ref.go:24", after := #[], guard := none }) (v := ?_) rfl (by kernel_rfl) (by kernel_rfl) (by kernel_rfl) (fun _ _ _ h => h) (Or.inl ⟨by rfl, ?_⟩) hHeld ?_
      rotate_left
      · intro w hSw
        obtain ⟨nd, rfl⟩ := hSw
        go_simp
        try with_reducible rfl
      try simp only [Act.put, List.setIfInBounds_toArray, List.set_cons_zero, List.set_cons_succ]
      refine wpAnyH_take (i := 6) (oi := { dst := some 19, op := Op.binOp BinOp.eql 34 (Operand.tmp 17) (Operand.tmp 18) 34, type := 4, pos := "ref.go:24", after := #[{ on := 4, ground := Ground.data }, { on := 5, ground := Ground.data }], guard := none }) (v := ?_) rfl (by kernel_rfl) (by kernel_rfl) (by kernel_rfl) (fun _ _ _ h => h) (Or.inl ⟨by rfl, ?_⟩) hHeld ?_
      rotate_left
      · intro w hSw
        clear hSw
        go_simp
        try with_reducible rfl
      try simp only [Act.put, List.setIfInBounds_toArray, List.set_cons_zero, List.set_cons_succ]
      refine wpAnyH_done (by kernel_rfl) ?_ _
      go_wp2_with fail
      go_ret2
      exact ⟨rfl, below_drewN (by go_grown) (q + 1)⟩
set_option maxHeartbeats 1000000 in
theorem rof_none (M : List (LK × Nat)) (base : Nat) (v : Value) (k : LK) (hk : k.Ok) (w : World) (h : Held w base v M) (hM : M.length ≤ 1000000) (hn : ∀ p ∈ M, p.1 ≠ k) :
    Calls Try.prog 17 #[v, k.v] w fun e w' => e = .returned (.tuple #[.int .u32 0, .bool false]) ∧ Below w.heap.size w w' := by
  obtain ⟨A, cap, rfl⟩ := OwnM.form h
  have HH := Lib.hid h
  have HK := Lib.hid hk
  have HN := Lib.hid hn
  clear h hk hn
  unfold LK.v
  go_enter Try.func17, Try.ntmps17
  go_wp2_with fail
  go_loopw [6] (fun x wr => ∃ j q : Nat, j ≤ M.length ∧ x = .int .i64 j ∧ wr = (w.alloc (.cells #[.string k.vrf, .int .i64 k.fam, .int .u64 k.rd, .string k.addr, .int .i64 k.len] 34)).drewN q) (fun x _ => M.length + 1 - (intOf x).toNat)
  case atStart => exact ⟨0, 0, by omega, rfl, rfl⟩
  case round =>
    obtain ⟨j, q, hj, rfl, rfl⟩ := hrel
    by_cases hlt : j < M.length
    · obtain ⟨p, hp⟩ : ∃ p, M[j]? = some p := ⟨M[j], List.getElem?_eq_getElem hlt⟩
      have hne := HN.out p (List.mem_of_getElem? hp)
      obtain ⟨kp, np⟩ := p
      have HC : Hid (Held _ base _ M) := HH.out.alloc (.cells #[.string k.vrf, .int .i64 k.fam, .int .u64 k.rd, .string k.addr, .int .i64 k.len] 34)
      obtain ⟨g2, cap2, hv2, _, _, _, _, _, c0, c1, c2, c3, c4, c5⟩ := Held.at_ HC.out hp
      simp only [Value.slice.injEq] at hv2
      obtain ⟨rfl, _, rfl⟩ := hv2
      clear HC
      simp only at hne
      have hjl : j < M.length := by omega
      go_wp2_with fail
      refine wp_region_held_drew (S := fun w' => ∃ nd, w' = (w.alloc (.cells #[.string k.vrf, .int .i64 k.fam, .int .u64 k.rd, .string k.addr, .int .i64 k.len] 34)).drewN nd) (by kernel_rfl) (⟨q + 1, rfl⟩) (fun hHeld => ?_)
      refine wpAnyH_take (i := 0) (oi := { dst := some 13, op := Op.move (Operand.tmp 0), type := 46, pos := "ref.go:24", after := #[], guard := none }) (v := ?_) rfl (by kernel_rfl) (by kernel_rfl) (by kernel_rfl) (fun _ _ _ h => h) (Or.inl ⟨by rfl, ?_⟩) hHeld ?_
      rotate_left
      · intro w hSw
        clear hSw
        go_simp
        try with_reducible rfl
      try simp only [Act.put, List.setIfInBounds_toArray, List.set_cons_zero, List.set_cons_succ]
      refine wpAnyH_take (i := 1) (oi := { dst := some 14, op := Op.move (Operand.tmp 6), type := 3, pos := "ref.go:24", after := #[], guard := none }) (v := ?_) rfl (by kernel_rfl) (by kernel_rfl) (by kernel_rfl) (fun _ _ _ h => h) (Or.inl ⟨by rfl, ?_⟩) hHeld ?_
      rotate_left
      · intro w hSw
        clear hSw
        go_simp
        try with_reducible rfl
      try simp only [Act.put, List.setIfInBounds_toArray, List.set_cons_zero, List.set_cons_succ]
      refine wpAnyH_take (i := 2) (oi := { dst := some 15, op := Op.indexAddr 46 (Operand.tmp 13) (Operand.tmp 14), type := 0, pos := "ref.go:24", after := #[{ on := 0, ground := Ground.data }, { on := 1, ground := Ground.data }], guard := none }) (v := ?_) rfl (by kernel_rfl) (by kernel_rfl) (by kernel_rfl) (fun _ _ _ h => h) (Or.inl ⟨by rfl, ?_⟩) hHeld ?_
      rotate_left
      · intro w hSw
        clear hSw
        go_simp
        try with_reducible rfl
      try simp only [Act.put, List.setIfInBounds_toArray, List.set_cons_zero, List.set_cons_succ]
      refine wpAnyH_take (i := 3) (oi := { dst := some 16, op := Op.fieldAddr 63 (Operand.tmp 15) 0, type := 0, pos := "ref.go:24", after := #[{ on := 2, ground := Ground.data }], guard := none }) (v := ?_) rfl (by kernel_rfl) (by kernel_rfl) (by kernel_rfl) (fun _ _ _ h => h) (Or.inl ⟨by rfl, ?_⟩) hHeld ?_
      rotate_left
      · intro w hSw
        clear hSw
        go_simp
        try with_reducible rfl
      try simp only [Act.put, List.setIfInBounds_toArray, List.set_cons_zero, List.set_cons_succ]
      refine wpAnyH_take (i := 4) (oi := { dst := some 17, op := Op.load 34 (Operand.tmp 16), type := 34, pos := "ref.go:24", after := #[{ on := 3, ground := Ground.data }], guard := none }) (v := ?_) rfl (by kernel_rfl) (by kernel_rfl) (by kernel_rfl) (fun _ _ _ h => h) (Or.inl ⟨by rfl, ?_⟩) hHeld ?_
      rotate_left
      · intro w hSw
        obtain ⟨nd, rfl⟩ := hSw
        go_simp
        try with_reducible rfl
      try simp only [Act.put, List.setIfInBounds_toArray, List.set_cons_zero, List.set_cons_succ]
      refine wpAnyH_take (i := 5) (oi := { dst := some 18, op := Op.load 34 (Operand.tmp 3), type := 34, pos := "ref.go:24", after := #[], guard := none }) (v := ?_) rfl (by kernel_rfl) (by kernel_rfl) (by kernel_rfl) (fun _ _ _ h => h) (Or.inl ⟨by rfl, ?_⟩) hHeld ?_
      rotate_left
      · intro w hSw
        obtain ⟨nd, rfl⟩ := hSw
        go_simp
        try with_reducible rfl
      try simp only [Act.put, List.setIfInBounds_toArray, List.set_cons_zero, List.set_cons_succ]
      refine wpAnyH_take (i := 6) (oi := { dst := some 19, op := Op.binOp BinOp.eql 34 (Operand.tmp 17) (Operand.tmp 18) 34, type := 4, pos := "ref.go:24", after := #[{ on := 4, ground := Ground.data }, { on := 5, ground := Ground.data }], guard := none }) (v := .bool false) rfl (by kernel_rfl) (by kernel_rfl) (by kernel_rfl) (fun _ _ _ h => h) (Or.inl ⟨by rfl, ?_⟩) hHeld ?_
      · intro w hSw
        clear hSw
        go_simp
        exact lk_no hne
      try simp only [Act.put, List.setIfInBounds_toArray, List.set_cons_zero, List.set_cons_succ]
      refine wpAnyH_done (by kernel_rfl) ?_ _
      go_wp2_with fail
      exact ⟨⟨j + 1, q + 1, by omega, by go_num, rfl⟩, by simp [intOf]; omega⟩
    · obtain rfl : j = M.length := by omega
      go_wp2_with fail
      go_ret2
      exact ⟨rfl, below_drewN (by go_grown) q⟩
end Go.Proofs.Ytngehobekmijbaa
