/-
  WaysOrder walked. Conditions: sizes.
-/
import Derived.Test.YthnjepehiddogaaTrU
set_option linter.unusedVariables false
set_option linter.unusedSimpArgs false
namespace Go.Proofs.Ythnjepehiddogaa
open Go.RowKit Go.MapKept

theorem two_new (w0 w1 : World) (L : List Px) (P Q : Nat → Prop) (hP : ∀ j, ¬ P j) (hQ : ∀ j y, L[j]? = some y → ¬ Q j) (hb : Below w0.heap.size w0 w1) : TwoAt w0 ((((w1.alloc (.cells #[.bool true, .slice none 0 0, .int .i64 0] 66)).alloc (.cells #[.pointer (some ⟨w1.heap.size, 0, none⟩)] 51)).alloc (.cells #[.bool true, .slice none 0 0, .int .i64 0] 66)).alloc (.cells #[.pointer (some ⟨w1.heap.size + 2, 0, none⟩)] 51)) (w1.heap.size + 1) (w1.heap.size + 3) (LM L P) (LM L Q) := by
  have h1 := (ways_new w1).same (N := LM L P) (fun q x => ⟨False.elim, fun ⟨j, y, h, _⟩ => hP j h⟩)
  have h2 := (ways_new ((w1.alloc (.cells #[.bool true, .slice none 0 0, .int .i64 0] 66)).alloc (.cells #[.pointer (some ⟨w1.heap.size, 0, none⟩)] 51))).same (N := LM L Q) (fun q x => ⟨False.elim, fun ⟨j, y, h, h2, _⟩ => hQ j y h2 h⟩)
  have hs : ((w1.alloc (.cells #[.bool true, .slice none 0 0, .int .i64 0] 66)).alloc (.cells #[.pointer (some ⟨w1.heap.size, 0, none⟩)] 51)).heap.size = w1.heap.size + 2 := by simp
  rw [hs] at h2
  have hb1 : Below w1.heap.size w1 ((w1.alloc (.cells #[.bool true, .slice none 0 0, .int .i64 0] 66)).alloc (.cells #[.pointer (some ⟨w1.heap.size, 0, none⟩)] 51)) := ((Below.refl _ _).alloc (Nat.le_refl _) _).alloc (by simp) _
  have hb2 : Below ((w1.alloc (.cells #[.bool true, .slice none 0 0, .int .i64 0] 66)).alloc (.cells #[.pointer (some ⟨w1.heap.size, 0, none⟩)] 51)).heap.size ((w1.alloc (.cells #[.bool true, .slice none 0 0, .int .i64 0] 66)).alloc (.cells #[.pointer (some ⟨w1.heap.size, 0, none⟩)] 51)) ((((w1.alloc (.cells #[.bool true, .slice none 0 0, .int .i64 0] 66)).alloc (.cells #[.pointer (some ⟨w1.heap.size, 0, none⟩)] 51)).alloc (.cells #[.bool true, .slice none 0 0, .int .i64 0] 66)).alloc (.cells #[.pointer (some ⟨w1.heap.size + 2, 0, none⟩)] 51)) := by
    rw [hs]
    exact ((Below.refl _ _).alloc (by simp) _).alloc (by simp) _
  refine ⟨_, _, h1.below hb2, h2, fun x hx hy => ?_, fun x hx => ?_, fun x hx => ?_, hb.trans ((hb1.trans (hb2.mono (by rw [hs]; omega))).mono hb.size)⟩
  · omega
  · have := hb.size
    omega
  · have := hb.size
    omega
set_option maxRecDepth 100000 in
set_option maxHeartbeats 8000000 in
theorem order_walk (A : Option Addr) (len cap : Nat) (next : ByteArray) (W : World) (hE : ElemsIn W A len cap 4 (fun cs => ∃ x : Px, x.In ∧ cs = x.cs)) :
    Calls Try.prog 3 #[.slice A len cap, .string next] W fun e w' => e = .returned (.bool true) ∧ Below W.heap.size W w' := by
  obtain ⟨N, hN, hN1, hN2⟩ : ∃ N : Nat, min (len : Int) 30 = (N : Int) ∧ N ≤ len ∧ N ≤ 30 := ⟨min len 30, by omega, by omega, by omega⟩
  have hN4 : (if (30 : Int) < (len : Int) then (30 : Int) else (len : Int)) = (N : Int) := by split <;> omega
  have hN5 : (if 30 < len then (30 : Int) else (len : Int)) = (N : Int) := by split <;> omega
  have hm1 := hE.1
  have hm2 := hE.2.1
  unfold maxLen at hm2
  obtain ⟨L, hL, hp⟩ := PxAt.of_elems hE hN1
  have HL := Lib.hid hp
  have HLN := Lib.hid hL
  clear hp hE hL
  go_enter Try.func3, Try.ntmps3
  go_wp2_with fail
  refine (works_any W).mono ?_
  rintro e w1 ⟨rfl, hb1⟩
  have HB1 := Lib.hid hb1
  clear hb1
  go_wp2_with fail
  refine (wnew_any w1).mono ?_
  rintro e w2 ⟨rfl, rfl⟩
  go_wp2_with fail
  refine (wnew_any _).mono ?_
  rintro e w3 ⟨rfl, hw3⟩
  have HT3 := Lib.hid (two_new W w1 L (fun j => j < 0) (fun j => N ≤ j + 0) (fun j h => by omega) (fun j y hj h => by
    have := (List.getElem?_eq_some_iff.1 hj).1
    have := HLN.out
    omega) HB1.out)
  have hs3 : ((w1.alloc (.cells #[.bool true, .slice none 0 0, .int .i64 0] 66)).alloc (.cells #[.pointer (some ⟨w1.heap.size, 0, none⟩)] 51)).heap.size = w1.heap.size + 2 := by simp
  rw [hs3] at hw3
  rw [← hw3] at HT3
  clear hw3 hs3 HB1
  go_wp2_with fail
  clear hN hN4 hN5
  go_loopw [7] (fun i wr => ∃ k : Nat, k ≤ N ∧ i = .int .i64 k ∧ Hid (TwoAt W wr (w1.heap.size + 1) (w1.heap.size + 3) (LM L (fun j => j < k)) (LM L (fun j => N ≤ j + k)))) (fun i _ => N + 1 - (intOf i).toNat)
  case atStart => exact ⟨0, Nat.zero_le _, rfl, HT3⟩
  case round =>
    obtain ⟨k, hk, rfl, HTr⟩ := hrel
    by_cases hlt : k < N
    · obtain ⟨x, hx⟩ : ∃ x, L[k]? = some x := ⟨L[k]'(by rw [HLN.out]; exact hlt), List.getElem?_eq_getElem _⟩
      obtain ⟨y, hy⟩ : ∃ y, L[N - 1 - k]? = some y := ⟨L[N - 1 - k]'(by rw [HLN.out]; omega), List.getElem?_eq_getElem _⟩
      obtain ⟨b0, off, rfl, _, _⟩ := HL.out.at_ (by rw [HLN.out]; omega)
      obtain ⟨m, hm⟩ : ∃ m : Nat, m = N - 1 := ⟨_, rfl⟩
      obtain ⟨j, hj⟩ : ∃ j : Nat, j = N - 1 - k := ⟨_, rfl⟩
      have hwm : IntKind.i64.wrap ((N : Int) - 1) = (m : Int) := by
        rw [show (N : Int) - 1 = (m : Int) by omega]
        exact IntWalk.i64_in _ (by omega)
      have hwj : IntKind.i64.wrap ((m : Int) - (k : Int)) = (j : Int) := by
        rw [show (m : Int) - (k : Int) = (j : Int) by omega]
        exact IntWalk.i64_in _ (by omega)
      have hjN : j < N := by omega
      have HJ : Hid (j = N - 1 - k) := hj
      rw [← hj] at hy
      clear hm hj
      have HX := Lib.hid hx
      have HY := Lib.hid hy
      have HXI := Lib.hid ((HL.out.ok x (List.mem_of_getElem? hx)).addr)
      have HYI := Lib.hid ((HL.out.ok y (List.mem_of_getElem? hy)).addr)
      clear hx hy
      obtain ⟨Xa, Xb, ha, hb, h3, h4, h5, h6⟩ := HTr.out
      have HA := Lib.hid ha
      have HB := Lib.hid hb
      have H3 := Lib.hid h3
      have H4 := Lib.hid h4
      have H5 := Lib.hid h5
      have H6 := Lib.hid h6
      clear ha hb h3 h4 h5 h6
      go_wp2_with fail
      refine wp_region_held_drew (S := fun w' => GrownX Xa wr w') (by kernel_rfl) (GrownX.of_below (below_drewN (Below.refl _ _) 1)) (fun hHeld => ?_)
      refine wpAnyH_take (i := 0) (oi := { dst := some 31, op := Op.move (Operand.tmp 5), type := 24, pos := "outright.go:36", after := #[], guard := none }) (v := ?_) rfl (by kernel_rfl) (by kernel_rfl) (by kernel_rfl) (fun _ _ _ h => h) (Or.inl ⟨by rfl, ?_⟩) hHeld ?_
      rotate_left
      · intro w hSw
        clear hSw
        go_simp
        try with_reducible rfl
      try simp only [Act.put, List.setIfInBounds_toArray, List.set_cons_zero, List.set_cons_succ]
      refine wpAnyH_take (i := 1) (oi := { dst := some 32, op := Op.move (Operand.tmp 0), type := 22, pos := "outright.go:36", after := #[], guard := none }) (v := ?_) rfl (by kernel_rfl) (by kernel_rfl) (by kernel_rfl) (fun _ _ _ h => h) (Or.inl ⟨by rfl, ?_⟩) hHeld ?_
      rotate_left
      · intro w hSw
        clear hSw
        go_simp
        try with_reducible rfl
      try simp only [Act.put, List.setIfInBounds_toArray, List.set_cons_zero, List.set_cons_succ]
      refine wpAnyH_take (i := 2) (oi := { dst := some 33, op := Op.move (Operand.tmp 7), type := 3, pos := "outright.go:36", after := #[], guard := none }) (v := ?_) rfl (by kernel_rfl) (by kernel_rfl) (by kernel_rfl) (fun _ _ _ h => h) (Or.inl ⟨by rfl, ?_⟩) hHeld ?_
      rotate_left
      · intro w hSw
        clear hSw
        go_simp
        try with_reducible rfl
      try simp only [Act.put, List.setIfInBounds_toArray, List.set_cons_zero, List.set_cons_succ]
      refine wpAnyH_take (i := 3) (oi := { dst := some 34, op := Op.indexAddr 22 (Operand.tmp 32) (Operand.tmp 33), type := 0, pos := "outright.go:36", after := #[{ on := 1, ground := Ground.data }, { on := 2, ground := Ground.data }], guard := none }) (v := ?_) rfl (by kernel_rfl) (by kernel_rfl) (by kernel_rfl) (fun _ _ _ h => h) (Or.inl ⟨by rfl, ?_⟩) hHeld ?_
      rotate_left
      · intro w hSw
        clear hSw
        go_simp
        try with_reducible rfl
      try simp only [Act.put, List.setIfInBounds_toArray, List.set_cons_zero, List.set_cons_succ]
      refine wpAnyH_take (i := 4) (oi := { dst := some 35, op := Op.load 30 (Operand.tmp 34), type := 30, pos := "outright.go:36", after := #[{ on := 3, ground := Ground.data }], guard := none }) (v := ?_) rfl (by kernel_rfl) (by kernel_rfl) (by kernel_rfl) (fun _ _ _ h => h) (Or.inl ⟨by rfl, ?_⟩) hHeld ?_
      rotate_left
      · intro w hSw
        obtain ⟨l0, l1, l2, l3⟩ := HL.out.read HX.out (hSw.below H6.out H4.out H6.out.size)
        go_simp
        try with_reducible rfl
      try simp only [Act.put, List.setIfInBounds_toArray, List.set_cons_zero, List.set_cons_succ]
      refine wpAnyH_take (i := 5) (oi := { dst := some 36, op := Op.move (Operand.tmp 0), type := 22, pos := "outright.go:36", after := #[], guard := none }) (v := ?_) rfl (by kernel_rfl) (by kernel_rfl) (by kernel_rfl) (fun _ _ _ h => h) (Or.inl ⟨by rfl, ?_⟩) hHeld ?_
      rotate_left
      · intro w hSw
        clear hSw
        go_simp
        try with_reducible rfl
      try simp only [Act.put, List.setIfInBounds_toArray, List.set_cons_zero, List.set_cons_succ]
      refine wpAnyH_take (i := 6) (oi := { dst := some 37, op := Op.move (Operand.tmp 7), type := 3, pos := "outright.go:36", after := #[], guard := none }) (v := ?_) rfl (by kernel_rfl) (by kernel_rfl) (by kernel_rfl) (fun _ _ _ h => h) (Or.inl ⟨by rfl, ?_⟩) hHeld ?_
      rotate_left
      · intro w hSw
        clear hSw
        go_simp
        try with_reducible rfl
      try simp only [Act.put, List.setIfInBounds_toArray, List.set_cons_zero, List.set_cons_succ]
      refine wpAnyH_take (i := 7) (oi := { dst := some 38, op := Op.indexAddr 22 (Operand.tmp 36) (Operand.tmp 37), type := 0, pos := "outright.go:36", after := #[{ on := 5, ground := Ground.data }, { on := 6, ground := Ground.data }], guard := none }) (v := ?_) rfl (by kernel_rfl) (by kernel_rfl) (by kernel_rfl) (fun _ _ _ h => h) (Or.inl ⟨by rfl, ?_⟩) hHeld ?_
      rotate_left
      · intro w hSw
        clear hSw
        go_simp
        try with_reducible rfl
      try simp only [Act.put, List.setIfInBounds_toArray, List.set_cons_zero, List.set_cons_succ]
      refine wpAnyH_take (i := 8) (oi := { dst := some 39, op := Op.fieldAddr 30 (Operand.tmp 38) 3, type := 0, pos := "outright.go:36", after := #[{ on := 7, ground := Ground.data }], guard := none }) (v := ?_) rfl (by kernel_rfl) (by kernel_rfl) (by kernel_rfl) (fun _ _ _ h => h) (Or.inl ⟨by rfl, ?_⟩) hHeld ?_
      rotate_left
      · intro w hSw
        clear hSw
        go_simp
        try with_reducible rfl
      try simp only [Act.put, List.setIfInBounds_toArray, List.set_cons_zero, List.set_cons_succ]
      refine wpAnyH_take (i := 9) (oi := { dst := some 40, op := Op.load 3 (Operand.tmp 39), type := 3, pos := "outright.go:36", after := #[{ on := 8, ground := Ground.data }], guard := none }) (v := ?_) rfl (by kernel_rfl) (by kernel_rfl) (by kernel_rfl) (fun _ _ _ h => h) (Or.inl ⟨by rfl, ?_⟩) hHeld ?_
      rotate_left
      · intro w hSw
        obtain ⟨l0, l1, l2, l3⟩ := HL.out.read HX.out (hSw.below H6.out H4.out H6.out.size)
        go_simp
        try with_reducible rfl
      try simp only [Act.put, List.setIfInBounds_toArray, List.set_cons_zero, List.set_cons_succ]
      refine wpAnyH_ready (rs := [10]) (by kernel_rfl) (by simp) ?_
      refine AllReadyH.cons (o := { dst := some 41, op := Op.call { callee := Callee.value (Operand.func 8), args := #[Operand.tmp 31, Operand.tmp 35, Operand.tmp 40], argTypes := #[24, 30, 3] }, type := 26, pos := "outright.go:36", after := #[{ on := 0, ground := Ground.data }, { on := 4, ground := Ground.data }, { on := 9, ground := Ground.data }], guard := none }) rfl (fun K hK => ?_) AllReadyH.nil
      go_simp
      refine (add_any x.fam x.rd x.addr x.len x.len HXI.out _ _ _ _ (HA.out.below (below_drewN (Below.refl _ _) 1))).mono ?_
      rintro e w9 hp
      obtain ⟨z, X9, rfl, k1, k2, k3⟩ := hp.step (HA.out.below (below_drewN (Below.refl _ _) 1)) HX.out
      have K1 := Lib.hid k1
      have K2 := Lib.hid k2
      have K3 := Lib.hid k3
      clear hp k1 k2 k3
      go_wp2_with fail
      refine hK.out _ _ (hHeld.trans K2.out) (fun hHeld => ?_)
      clear hK K
      try simp only [Act.put, List.setIfInBounds_toArray, List.set_cons_zero, List.set_cons_succ]
      refine wpAnyH_done (by kernel_rfl) ?_ _
      have HT9 : Hid (TwoAt W w9 (w1.heap.size + 1) (w1.heap.size + 3) (LM L (fun i => i < k ∨ i = k)) (LM L (fun j => N ≤ j + k))) := TwoAt.turn (Ma := fun _ _ => False) (HB.out.below (below_drewN (Below.refl _ _) 1)) H3.out H4.out H5.out (below_drewN H6.out 1) K1.out K2.out K3.out
      clear hHeld HA HB H3 H4 H5 H6 K1 K2 K3
      obtain ⟨Xb, Xa, hb, ha, h3, h5, h4, h6⟩ := HT9.out.swap
      have HA := Lib.hid ha
      have HB := Lib.hid hb
      have H3 := Lib.hid h3
      have H4 := Lib.hid h4
      have H5 := Lib.hid h5
      have H6 := Lib.hid h6
      clear ha hb h3 h4 h5 h6
      go_wp2_with fail
      refine wp_region_held_drew (S := fun w' => GrownX Xb w9 w') (by kernel_rfl) (GrownX.of_below (below_drewN (Below.refl _ _) 1)) (fun hHeld => ?_)
      refine wpAnyH_take (i := 0) (oi := { dst := some 42, op := Op.move (Operand.tmp 6), type := 24, pos := "outright.go:37", after := #[], guard := none }) (v := ?_) rfl (by kernel_rfl) (by kernel_rfl) (by kernel_rfl) (fun _ _ _ h => h) (Or.inl ⟨by rfl, ?_⟩) hHeld ?_
      rotate_left
      · intro w hSw
        clear hSw
        go_simp
        try with_reducible rfl
      try simp only [Act.put, List.setIfInBounds_toArray, List.set_cons_zero, List.set_cons_succ]
      refine wpAnyH_take (i := 1) (oi := { dst := some 43, op := Op.move (Operand.tmp 0), type := 22, pos := "outright.go:37", after := #[], guard := none }) (v := ?_) rfl (by kernel_rfl) (by kernel_rfl) (by kernel_rfl) (fun _ _ _ h => h) (Or.inl ⟨by rfl, ?_⟩) hHeld ?_
      rotate_left
      · intro w hSw
        clear hSw
        go_simp
        try with_reducible rfl
      try simp only [Act.put, List.setIfInBounds_toArray, List.set_cons_zero, List.set_cons_succ]
      refine wpAnyH_take (i := 2) (oi := { dst := some 44, op := Op.move (Operand.tmp 0), type := 22, pos := "outright.go:37", after := #[], guard := none }) (v := ?_) rfl (by kernel_rfl) (by kernel_rfl) (by kernel_rfl) (fun _ _ _ h => h) (Or.inl ⟨by rfl, ?_⟩) hHeld ?_
      rotate_left
      · intro w hSw
        clear hSw
        go_simp
        try with_reducible rfl
      try simp only [Act.put, List.setIfInBounds_toArray, List.set_cons_zero, List.set_cons_succ]
      refine wpAnyH_take (i := 3) (oi := { dst := some 45, op := Op.call { callee := Callee.builtin Builtin.len, args := #[Operand.tmp 44], argTypes := #[22] }, type := 3, pos := "outright.go:37", after := #[{ on := 2, ground := Ground.data }], guard := none }) (v := ?_) rfl (by kernel_rfl) (by kernel_rfl) (by kernel_rfl) (fun _ _ _ h => h) (Or.inl ⟨by rfl, ?_⟩) hHeld ?_
      rotate_left
      · intro w hSw
        clear hSw
        go_simp
        try with_reducible rfl
      try simp only [Act.put, List.setIfInBounds_toArray, List.set_cons_zero, List.set_cons_succ]
      refine wpAnyH_take (i := 4) (oi := { dst := some 46, op := Op.binOp BinOp.sub 3 (Operand.tmp 45) (Operand.const (Value.int IntKind.i64 1)) 3, type := 3, pos := "outright.go:37", after := #[{ on := 3, ground := Ground.data }], guard := none }) (v := .int .i64 (m : Nat)) rfl (by kernel_rfl) (by kernel_rfl) (by kernel_rfl) (fun _ _ _ h => h) (Or.inl ⟨by rfl, ?_⟩) hHeld ?_
      · intro w hSw
        clear hSw
        go_simp
        try exact hwm
      try simp only [Act.put, List.setIfInBounds_toArray, List.set_cons_zero, List.set_cons_succ]
      refine wpAnyH_take (i := 5) (oi := { dst := some 47, op := Op.move (Operand.tmp 7), type := 3, pos := "outright.go:37", after := #[], guard := none }) (v := ?_) rfl (by kernel_rfl) (by kernel_rfl) (by kernel_rfl) (fun _ _ _ h => h) (Or.inl ⟨by rfl, ?_⟩) hHeld ?_
      rotate_left
      · intro w hSw
        clear hSw
        go_simp
        try with_reducible rfl
      try simp only [Act.put, List.setIfInBounds_toArray, List.set_cons_zero, List.set_cons_succ]
      refine wpAnyH_take (i := 6) (oi := { dst := some 48, op := Op.binOp BinOp.sub 3 (Operand.tmp 46) (Operand.tmp 47) 3, type := 3, pos := "outright.go:37", after := #[{ on := 4, ground := Ground.data }, { on := 5, ground := Ground.data }], guard := none }) (v := .int .i64 (j : Nat)) rfl (by kernel_rfl) (by kernel_rfl) (by kernel_rfl) (fun _ _ _ h => h) (Or.inl ⟨by rfl, ?_⟩) hHeld ?_
      · intro w hSw
        clear hSw
        go_simp
        try exact hwj
      try simp only [Act.put, List.setIfInBounds_toArray, List.set_cons_zero, List.set_cons_succ]
      refine wpAnyH_take (i := 7) (oi := { dst := some 49, op := Op.indexAddr 22 (Operand.tmp 43) (Operand.tmp 48), type := 0, pos := "outright.go:37", after := #[{ on := 1, ground := Ground.data }, { on := 6, ground := Ground.data }], guard := none }) (v := ?_) rfl (by kernel_rfl) (by kernel_rfl) (by kernel_rfl) (fun _ _ _ h => h) (Or.inl ⟨by rfl, ?_⟩) hHeld ?_
      rotate_left
      · intro w hSw
        clear hSw
        go_simp
        try with_reducible rfl
      try simp only [Act.put, List.setIfInBounds_toArray, List.set_cons_zero, List.set_cons_succ]
      refine wpAnyH_take (i := 8) (oi := { dst := some 50, op := Op.load 30 (Operand.tmp 49), type := 30, pos := "outright.go:37", after := #[{ on := 7, ground := Ground.data }], guard := none }) (v := ?_) rfl (by kernel_rfl) (by kernel_rfl) (by kernel_rfl) (fun _ _ _ h => h) (Or.inl ⟨by rfl, ?_⟩) hHeld ?_
      rotate_left
      · intro w hSw
        obtain ⟨l0, l1, l2, l3⟩ := HL.out.read HY.out (hSw.below H6.out H5.out H6.out.size)
        go_simp
        try with_reducible rfl
      try simp only [Act.put, List.setIfInBounds_toArray, List.set_cons_zero, List.set_cons_succ]
      refine wpAnyH_take (i := 9) (oi := { dst := some 51, op := Op.move (Operand.tmp 0), type := 22, pos := "outright.go:37", after := #[], guard := none }) (v := ?_) rfl (by kernel_rfl) (by kernel_rfl) (by kernel_rfl) (fun _ _ _ h => h) (Or.inl ⟨by rfl, ?_⟩) hHeld ?_
      rotate_left
      · intro w hSw
        clear hSw
        go_simp
        try with_reducible rfl
      try simp only [Act.put, List.setIfInBounds_toArray, List.set_cons_zero, List.set_cons_succ]
      refine wpAnyH_take (i := 10) (oi := { dst := some 52, op := Op.move (Operand.tmp 0), type := 22, pos := "outright.go:37", after := #[], guard := none }) (v := ?_) rfl (by kernel_rfl) (by kernel_rfl) (by kernel_rfl) (fun _ _ _ h => h) (Or.inl ⟨by rfl, ?_⟩) hHeld ?_
      rotate_left
      · intro w hSw
        clear hSw
        go_simp
        try with_reducible rfl
      try simp only [Act.put, List.setIfInBounds_toArray, List.set_cons_zero, List.set_cons_succ]
      refine wpAnyH_take (i := 11) (oi := { dst := some 53, op := Op.call { callee := Callee.builtin Builtin.len, args := #[Operand.tmp 52], argTypes := #[22] }, type := 3, pos := "outright.go:37", after := #[{ on := 10, ground := Ground.data }], guard := none }) (v := ?_) rfl (by kernel_rfl) (by kernel_rfl) (by kernel_rfl) (fun _ _ _ h => h) (Or.inl ⟨by rfl, ?_⟩) hHeld ?_
      rotate_left
      · intro w hSw
        clear hSw
        go_simp
        try with_reducible rfl
      try simp only [Act.put, List.setIfInBounds_toArray, List.set_cons_zero, List.set_cons_succ]
      refine wpAnyH_take (i := 12) (oi := { dst := some 54, op := Op.binOp BinOp.sub 3 (Operand.tmp 53) (Operand.const (Value.int IntKind.i64 1)) 3, type := 3, pos := "outright.go:37", after := #[{ on := 11, ground := Ground.data }], guard := none }) (v := .int .i64 (m : Nat)) rfl (by kernel_rfl) (by kernel_rfl) (by kernel_rfl) (fun _ _ _ h => h) (Or.inl ⟨by rfl, ?_⟩) hHeld ?_
      · intro w hSw
        clear hSw
        go_simp
        try exact hwm
      try simp only [Act.put, List.setIfInBounds_toArray, List.set_cons_zero, List.set_cons_succ]
      refine wpAnyH_take (i := 13) (oi := { dst := some 55, op := Op.move (Operand.tmp 7), type := 3, pos := "outright.go:37", after := #[], guard := none }) (v := ?_) rfl (by kernel_rfl) (by kernel_rfl) (by kernel_rfl) (fun _ _ _ h => h) (Or.inl ⟨by rfl, ?_⟩) hHeld ?_
      rotate_left
      · intro w hSw
        clear hSw
        go_simp
        try with_reducible rfl
      try simp only [Act.put, List.setIfInBounds_toArray, List.set_cons_zero, List.set_cons_succ]
      refine wpAnyH_take (i := 14) (oi := { dst := some 56, op := Op.binOp BinOp.sub 3 (Operand.tmp 54) (Operand.tmp 55) 3, type := 3, pos := "outright.go:37", after := #[{ on := 12, ground := Ground.data }, { on := 13, ground := Ground.data }], guard := none }) (v := .int .i64 (j : Nat)) rfl (by kernel_rfl) (by kernel_rfl) (by kernel_rfl) (fun _ _ _ h => h) (Or.inl ⟨by rfl, ?_⟩) hHeld ?_
      · intro w hSw
        clear hSw
        go_simp
        try exact hwj
      try simp only [Act.put, List.setIfInBounds_toArray, List.set_cons_zero, List.set_cons_succ]
      refine wpAnyH_take (i := 15) (oi := { dst := some 57, op := Op.indexAddr 22 (Operand.tmp 51) (Operand.tmp 56), type := 0, pos := "outright.go:37", after := #[{ on := 9, ground := Ground.data }, { on := 14, ground := Ground.data }], guard := none }) (v := ?_) rfl (by kernel_rfl) (by kernel_rfl) (by kernel_rfl) (fun _ _ _ h => h) (Or.inl ⟨by rfl, ?_⟩) hHeld ?_
      rotate_left
      · intro w hSw
        clear hSw
        go_simp
        try with_reducible rfl
      try simp only [Act.put, List.setIfInBounds_toArray, List.set_cons_zero, List.set_cons_succ]
      refine wpAnyH_take (i := 16) (oi := { dst := some 58, op := Op.fieldAddr 30 (Operand.tmp 57) 3, type := 0, pos := "outright.go:37", after := #[{ on := 15, ground := Ground.data }], guard := none }) (v := ?_) rfl (by kernel_rfl) (by kernel_rfl) (by kernel_rfl) (fun _ _ _ h => h) (Or.inl ⟨by rfl, ?_⟩) hHeld ?_
      rotate_left
      · intro w hSw
        clear hSw
        go_simp
        try with_reducible rfl
      try simp only [Act.put, List.setIfInBounds_toArray, List.set_cons_zero, List.set_cons_succ]
      refine wpAnyH_take (i := 17) (oi := { dst := some 59, op := Op.load 3 (Operand.tmp 58), type := 3, pos := "outright.go:37", after := #[{ on := 16, ground := Ground.data }], guard := none }) (v := ?_) rfl (by kernel_rfl) (by kernel_rfl) (by kernel_rfl) (fun _ _ _ h => h) (Or.inl ⟨by rfl, ?_⟩) hHeld ?_
      rotate_left
      · intro w hSw
        obtain ⟨l0, l1, l2, l3⟩ := HL.out.read HY.out (hSw.below H6.out H5.out H6.out.size)
        go_simp
        try with_reducible rfl
      try simp only [Act.put, List.setIfInBounds_toArray, List.set_cons_zero, List.set_cons_succ]
      refine wpAnyH_ready (rs := [18]) (by kernel_rfl) (by simp) ?_
      refine AllReadyH.cons (o := { dst := some 60, op := Op.call { callee := Callee.value (Operand.func 8), args := #[Operand.tmp 42, Operand.tmp 50, Operand.tmp 59], argTypes := #[24, 30, 3] }, type := 26, pos := "outright.go:37", after := #[{ on := 0, ground := Ground.data }, { on := 8, ground := Ground.data }, { on := 17, ground := Ground.data }], guard := none }) rfl (fun K hK => ?_) AllReadyH.nil
      go_simp
      refine (add_any y.fam y.rd y.addr y.len y.len HYI.out _ _ _ _ (HB.out.below (below_drewN (Below.refl _ _) 1))).mono ?_
      rintro e w8 hp
      obtain ⟨z, X9, rfl, k1, k2, k3⟩ := hp.step (HB.out.below (below_drewN (Below.refl _ _) 1)) HY.out
      have K1 := Lib.hid k1
      have K2 := Lib.hid k2
      have K3 := Lib.hid k3
      clear hp k1 k2 k3
      go_wp2_with fail
      refine hK.out _ _ (hHeld.trans K2.out) (fun hHeld => ?_)
      clear hK K
      try simp only [Act.put, List.setIfInBounds_toArray, List.set_cons_zero, List.set_cons_succ]
      refine wpAnyH_done (by kernel_rfl) ?_ _
      have HT8 : Hid (TwoAt W w8 (w1.heap.size + 1) (w1.heap.size + 3) (LM L (fun i => i < k ∨ i = k)) (LM L (fun i => N ≤ i + k ∨ i = j))) := TwoAt.swap (TwoAt.turn (Ma := fun _ _ => False) (HA.out.below (below_drewN (Below.refl _ _) 1)) H3.out H5.out H4.out (below_drewN H6.out 1) K1.out K2.out K3.out)
      clear hHeld HA HB H3 H4 H5 H6 K1 K2 K3
      go_wp2_with fail
      exact ⟨⟨k + 1, by omega, by go_num, HT8.out.same (fun q x => ⟨LM.mono fun i hi => by omega, LM.mono fun i hi => by omega⟩) (fun q x => ⟨LM.mono fun i hi => by
        have := HJ.out
        omega, LM.mono fun i hi => by
        have := HJ.out
        omega⟩)⟩, by simp [intOf]; omega⟩
    · obtain rfl : N = k := by omega
      have HT : Hid (TwoAt W wr (w1.heap.size + 1) (w1.heap.size + 3) (LM L (fun _ => True)) (LM L (fun _ => True))) := HTr.out.same (fun q x => ⟨LM.mono fun _ _ => trivial, fun ⟨i, y, _, h1, h2⟩ => ⟨i, y, by
          have := (List.getElem?_eq_some_iff.1 h1).1
          have := HLN.out
          omega, h1, h2⟩⟩) (fun q x => ⟨LM.mono fun _ _ => trivial, fun ⟨i, y, _, h1, h2⟩ => ⟨i, y, by omega, h1, h2⟩⟩)
      clear HTr
      obtain ⟨Xa, Xb, ha, hb, _, _, _, h6⟩ := HT.out
      have HA := Lib.hid ha
      have HB := Lib.hid hb
      have H6 := Lib.hid h6
      clear ha hb h6 HT
      go_wp2_with fail
      refine (cost_any next _ _ _ _ HA.out).mono ?_
      rintro e w4 ⟨hb4, xa, ba, rfl, hca⟩
      have HB4 := Lib.hid (HB.out.below hb4)
      have H64 := Lib.hid (H6.out.trans (hb4.mono H6.out.size))
      have HCA := Lib.hid hca
      clear hb4 HA HB H6 hca
      go_wp2_with fail
      refine (cost_any next _ _ _ _ HB4.out).mono ?_
      rintro e w5 ⟨hb5, xb, bb, rfl, hcb⟩
      obtain ⟨rfl, rfl⟩ := CostOf.uniq LM.flat HCA.out hcb
      have H65 := Lib.hid (H64.out.trans (hb5.mono H64.out.size))
      clear hb5 HB4 H64 hcb
      by_cases s4 : next.size = 4
      · have HLG : Hid (LongM (LM L (fun _ => True)) ⟨1, 0, next, 32⟩ xa ba) := by
          have := HCA.out
          unfold CostOf at this
          rw [if_pos s4] at this
          exact this
        have HOK := Lib.hid (whole_ok4 s4)
        have e4 : ((next.size : Int) == 4) = true := by rw [beq_iff_eq]; omega
        have e16 : ((next.size : Int) == 16) = false := by rw [beq_eq_false_iff_ne]; omega
        have hw8 : IntKind.i64.wrap (8 * (next.size : Int)) = 32 := by
          rw [s4]
          rfl
        clear s4 HCA
        go_wp2_with fail
        go_loopw [14, 12] (fun i bv wr => ∃ (k : Nat) (best : Int), k ≤ N ∧ i = .int .i64 k ∧ bv = .int .i64 best ∧ Hid (Below W.heap.size W wr) ∧ Hid (BestIs L (fun z => covX z ⟨1, 0, next, 32⟩) k best) ∧ Hid (-1 ≤ best)) (fun i _ _ => N + 1 - (intOf i).toNat)
        case atStart => exact ⟨0, -1, Nat.zero_le _, rfl, rfl, H65.out, BestIs.zero _ _, by show (-1 : Int) ≤ -1; omega⟩
        case round =>
          obtain ⟨k, best, hk, rfl, rfl, HBr, HBE, HM1⟩ := hrel
          by_cases hlt : k < N
          · obtain ⟨x, hx⟩ : ∃ x, L[k]? = some x := ⟨L[k]'(by rw [HLN.out]; exact hlt), List.getElem?_eq_getElem _⟩
            obtain ⟨b0, off, rfl, _, _⟩ := HL.out.at_ (by rw [HLN.out]; omega)
            have HX := Lib.hid hx
            clear hx
            go_wp2_with fail
            refine wp_name fun w7 hw7 => ?_
            have HQ : Hid (CellsAt w7 wr.heap.size #[.int .i64 1, .int .u64 0, .string next, .int .i64 32] 30) := by
              rw [hw7]
              exact CellsAt.new' _ _ (by simp) _ _
            have HB7 : Hid (Below W.heap.size W w7) := by
              rw [hw7]
              clear hw7
              show Below _ _ _
              have hs := HBr.out.size
              repeat' (first | with_reducible exact HBr.out | with_reducible refine Below.setCell ?_ (by first | omega | (simp; omega) | simp) _ | with_reducible refine Below.alloc ?_ (by first | omega | (simp; omega) | simp) _)
            clear hw7
            by_cases hc : covX x ⟨1, 0, next, 32⟩
            · have HCV := Lib.hid hc
              have hxf : x.fam = 1 := hc.2.1
              have e5 : (x.fam == 1) = true := by rw [beq_iff_eq]; exact hxf
              obtain ⟨B2, hB2⟩ : ∃ B : Int, max best x.len = B := ⟨_, rfl⟩
              have hB3 : (if best < x.len then x.len else best) = B2 := by rw [← hB2]; split <;> omega
              have HBE2 : Hid (BestIs L (fun z => covX z ⟨1, 0, next, 32⟩) (k + 1) B2) := by
                rw [← hB2]
                exact BestIs.yes HBE.out HX.out hc (by have := hc.1.2.2.1; omega)
              have HM2 : Hid (-1 ≤ B2) := by
                have := HM1.out
                show -1 ≤ B2
                omega
              clear hc hxf
              refine wp_region_held_drew (S := fun w' => Below w7.heap.size w7 w') (by kernel_rfl) (below_drewN (Below.refl _ _) 1) (fun hHeld => ?_)
              refine wpAnyH_take (i := 0) (oi := { dst := some 99, op := Op.move (Operand.tmp 13), type := 3, pos := "outright.go:54", after := #[], guard := none }) (v := ?_) rfl (by kernel_rfl) (by kernel_rfl) (by kernel_rfl) (fun _ _ _ h => h) (Or.inl ⟨by rfl, ?_⟩) hHeld ?_
              rotate_left
              · intro w hSw
                clear hSw
                go_simp
                try with_reducible rfl
              try simp only [Act.put, List.setIfInBounds_toArray, List.set_cons_zero, List.set_cons_succ]
              refine wpAnyH_take (i := 1) (oi := { dst := some 100, op := Op.binOp BinOp.gtr 3 (Operand.tmp 99) (Operand.const (Value.int IntKind.i64 0)) 3, type := 4, pos := "outright.go:54", after := #[{ on := 0, ground := Ground.data }], guard := none }) (v := ?_) rfl (by kernel_rfl) (by kernel_rfl) (by kernel_rfl) (fun _ _ _ h => h) (Or.inl ⟨by rfl, ?_⟩) hHeld ?_
              rotate_left
              · intro w hSw
                clear hSw
                go_simp
                try with_reducible rfl
              try simp only [Act.put, List.setIfInBounds_toArray, List.set_cons_zero, List.set_cons_succ]
              refine wpAnyH_take (i := 2) (oi := { dst := some 101, op := Op.move (Operand.tmp 100), type := 4, pos := "outright.go:54", after := #[{ on := 1, ground := Ground.data }], guard := none }) (v := ?_) rfl (by kernel_rfl) (by kernel_rfl) (by kernel_rfl) (fun _ _ _ h => h) (Or.inl ⟨by rfl, ?_⟩) hHeld ?_
              rotate_left
              · intro w hSw
                clear hSw
                go_simp
                try with_reducible rfl
              try simp only [Act.put, List.setIfInBounds_toArray, List.set_cons_zero, List.set_cons_succ]
              refine wpAnyH_take (i := 3) (oi := { dst := some 102, op := Op.move (Operand.tmp 0), type := 22, pos := "outright.go:54", after := #[{ on := 2, ground := Ground.guard }], guard := some (2, true) }) (v := ?_) rfl (by kernel_rfl) (by kernel_rfl) (by kernel_rfl) (fun _ _ _ h => h) (Or.inl ⟨by rfl, ?_⟩) hHeld ?_
              rotate_left
              · intro w hSw
                clear hSw
                go_simp
                try with_reducible rfl
              try simp only [Act.put, List.setIfInBounds_toArray, List.set_cons_zero, List.set_cons_succ]
              refine wpAnyH_take (i := 4) (oi := { dst := some 103, op := Op.move (Operand.tmp 14), type := 3, pos := "outright.go:54", after := #[{ on := 2, ground := Ground.guard }], guard := some (2, true) }) (v := ?_) rfl (by kernel_rfl) (by kernel_rfl) (by kernel_rfl) (fun _ _ _ h => h) (Or.inl ⟨by rfl, ?_⟩) hHeld ?_
              rotate_left
              · intro w hSw
                clear hSw
                go_simp
                try with_reducible rfl
              try simp only [Act.put, List.setIfInBounds_toArray, List.set_cons_zero, List.set_cons_succ]
              refine wpAnyH_take (i := 5) (oi := { dst := some 104, op := Op.indexAddr 22 (Operand.tmp 102) (Operand.tmp 103), type := 0, pos := "outright.go:54", after := #[{ on := 3, ground := Ground.data }, { on := 4, ground := Ground.data }, { on := 2, ground := Ground.guard }], guard := some (2, true) }) (v := ?_) rfl (by kernel_rfl) (by kernel_rfl) (by kernel_rfl) (fun _ _ _ h => h) (Or.inl ⟨by rfl, ?_⟩) hHeld ?_
              rotate_left
              · intro w hSw
                clear hSw
                go_simp
                try with_reducible rfl
              try simp only [Act.put, List.setIfInBounds_toArray, List.set_cons_zero, List.set_cons_succ]
              refine wpAnyH_take (i := 6) (oi := { dst := some 105, op := Op.load 30 (Operand.tmp 104), type := 30, pos := "outright.go:54", after := #[{ on := 5, ground := Ground.data }, { on := 2, ground := Ground.guard }], guard := some (2, true) }) (v := ?_) rfl (by kernel_rfl) (by kernel_rfl) (by kernel_rfl) (fun _ _ _ h => h) (Or.inl ⟨by rfl, ?_⟩) hHeld ?_
              rotate_left
              · intro w hSw
                obtain ⟨l0, l1, l2, l3⟩ := HL.out.read HX.out (HB7.out.trans (hSw.mono HB7.out.size))
                obtain ⟨p0, p1, p2, p3, _⟩ := c4_at (HQ.out.below hSw HQ.out.lt)
                go_simp
                try with_reducible rfl
              try simp only [Act.put, List.setIfInBounds_toArray, List.set_cons_zero, List.set_cons_succ]
              refine wpAnyH_take (i := 7) (oi := { dst := some 106, op := Op.load 30 (Operand.tmp 15), type := 30, pos := "outright.go:54", after := #[{ on := 2, ground := Ground.guard }], guard := some (2, true) }) (v := ?_) rfl (by kernel_rfl) (by kernel_rfl) (by kernel_rfl) (fun _ _ _ h => h) (Or.inl ⟨by rfl, ?_⟩) hHeld ?_
              rotate_left
              · intro w hSw
                obtain ⟨l0, l1, l2, l3⟩ := HL.out.read HX.out (HB7.out.trans (hSw.mono HB7.out.size))
                obtain ⟨p0, p1, p2, p3, _⟩ := c4_at (HQ.out.below hSw HQ.out.lt)
                go_simp
                try with_reducible rfl
              try simp only [Act.put, List.setIfInBounds_toArray, List.set_cons_zero, List.set_cons_succ]
              refine wpAnyH_ready (rs := [8]) (by kernel_rfl) (by simp) ?_
              refine AllReadyH.cons (o := { dst := some 107, op := Op.call { callee := Callee.value (Operand.func 10), args := #[Operand.tmp 105, Operand.tmp 106], argTypes := #[30, 30] }, type := 4, pos := "outright.go:54", after := #[{ on := 6, ground := Ground.data }, { on := 7, ground := Ground.data }, { on := 2, ground := Ground.chain }, { on := 2, ground := Ground.guard }], guard := some (2, true) }) rfl (fun K hK => ?_) AllReadyH.nil
              go_simp
              refine (covers_any x (⟨1, 0, next, 32⟩ : Tp) HOK.out _).mono ?_
              rintro e w9 ⟨hb9, r, rfl, hr⟩
              obtain rfl : r = true := hr.2 HCV.out
              have HB9 := Lib.hid hb9
              clear hr hb9
              go_wp2_with fail
              refine hK.out _ _ (hHeld.trans (HB9.out.mono hHeld.size)) (fun hHeld => ?_)
              clear hK K
              try simp only [Act.put, List.setIfInBounds_toArray, List.set_cons_zero, List.set_cons_succ]
              refine wpAnyH_take (i := 9) (oi := { dst := some 108, op := Op.pick (Operand.tmp 101) (Operand.tmp 107) (Operand.const (Value.bool false)), type := 4, pos := "outright.go:54", after := #[{ on := 2, ground := Ground.data }, { on := 8, ground := Ground.data }], guard := none }) (v := ?_) rfl (by kernel_rfl) (by kernel_rfl) (by kernel_rfl) (fun _ _ _ h => h) (Or.inl ⟨by rfl, ?_⟩) hHeld ?_
              rotate_left
              · intro w hSw
                clear hSw
                go_simp
                try with_reducible rfl
              try simp only [Act.put, List.setIfInBounds_toArray, List.set_cons_zero, List.set_cons_succ]
              refine wpAnyH_take (i := 10) (oi := { dst := some 109, op := Op.move (Operand.tmp 108), type := 4, pos := "outright.go:54", after := #[{ on := 9, ground := Ground.data }, { on := 8, ground := Ground.chain }], guard := none }) (v := ?_) rfl (by kernel_rfl) (by kernel_rfl) (by kernel_rfl) (fun _ _ _ h => h) (Or.inl ⟨by rfl, ?_⟩) hHeld ?_
              rotate_left
              · intro w hSw
                clear hSw
                go_simp
                try with_reducible rfl
              try simp only [Act.put, List.setIfInBounds_toArray, List.set_cons_zero, List.set_cons_succ]
              refine wpAnyH_take (i := 11) (oi := { dst := some 110, op := Op.move (Operand.tmp 0), type := 22, pos := "outright.go:54", after := #[{ on := 10, ground := Ground.guard }], guard := some (10, true) }) (v := ?_) rfl (by kernel_rfl) (by kernel_rfl) (by kernel_rfl) (fun _ _ _ h => h) (Or.inl ⟨by rfl, ?_⟩) hHeld ?_
              rotate_left
              · intro w hSw
                clear hSw
                go_simp
                try with_reducible rfl
              try simp only [Act.put, List.setIfInBounds_toArray, List.set_cons_zero, List.set_cons_succ]
              refine wpAnyH_take (i := 12) (oi := { dst := some 111, op := Op.move (Operand.tmp 14), type := 3, pos := "outright.go:54", after := #[{ on := 10, ground := Ground.guard }], guard := some (10, true) }) (v := ?_) rfl (by kernel_rfl) (by kernel_rfl) (by kernel_rfl) (fun _ _ _ h => h) (Or.inl ⟨by rfl, ?_⟩) hHeld ?_
              rotate_left
              · intro w hSw
                clear hSw
                go_simp
                try with_reducible rfl
              try simp only [Act.put, List.setIfInBounds_toArray, List.set_cons_zero, List.set_cons_succ]
              refine wpAnyH_take (i := 13) (oi := { dst := some 112, op := Op.indexAddr 22 (Operand.tmp 110) (Operand.tmp 111), type := 0, pos := "outright.go:54", after := #[{ on := 11, ground := Ground.data }, { on := 12, ground := Ground.data }, { on := 10, ground := Ground.guard }], guard := some (10, true) }) (v := ?_) rfl (by kernel_rfl) (by kernel_rfl) (by kernel_rfl) (fun _ _ _ h => h) (Or.inl ⟨by rfl, ?_⟩) hHeld ?_
              rotate_left
              · intro w hSw
                clear hSw
                go_simp
                try with_reducible rfl
              try simp only [Act.put, List.setIfInBounds_toArray, List.set_cons_zero, List.set_cons_succ]
              refine wpAnyH_take (i := 14) (oi := { dst := some 113, op := Op.fieldAddr 30 (Operand.tmp 112) 0, type := 0, pos := "outright.go:54", after := #[{ on := 13, ground := Ground.data }, { on := 10, ground := Ground.guard }], guard := some (10, true) }) (v := ?_) rfl (by kernel_rfl) (by kernel_rfl) (by kernel_rfl) (fun _ _ _ h => h) (Or.inl ⟨by rfl, ?_⟩) hHeld ?_
              rotate_left
              · intro w hSw
                clear hSw
                go_simp
                try with_reducible rfl
              try simp only [Act.put, List.setIfInBounds_toArray, List.set_cons_zero, List.set_cons_succ]
              refine wpAnyH_take (i := 15) (oi := { dst := some 114, op := Op.load 3 (Operand.tmp 113), type := 3, pos := "outright.go:54", after := #[{ on := 14, ground := Ground.data }, { on := 10, ground := Ground.guard }], guard := some (10, true) }) (v := ?_) rfl (by kernel_rfl) (by kernel_rfl) (by kernel_rfl) (fun _ _ _ h => h) (Or.inl ⟨by rfl, ?_⟩) hHeld ?_
              rotate_left
              · intro w hSw
                obtain ⟨l0, l1, l2, l3⟩ := HL.out.read HX.out (HB7.out.trans (hSw.mono HB7.out.size))
                obtain ⟨p0, p1, p2, p3, _⟩ := c4_at (HQ.out.below hSw HQ.out.lt)
                go_simp
                try with_reducible rfl
              try simp only [Act.put, List.setIfInBounds_toArray, List.set_cons_zero, List.set_cons_succ]
              refine wpAnyH_take (i := 16) (oi := { dst := some 115, op := Op.move (Operand.tmp 13), type := 3, pos := "outright.go:54", after := #[{ on := 10, ground := Ground.guard }], guard := some (10, true) }) (v := ?_) rfl (by kernel_rfl) (by kernel_rfl) (by kernel_rfl) (fun _ _ _ h => h) (Or.inl ⟨by rfl, ?_⟩) hHeld ?_
              rotate_left
              · intro w hSw
                clear hSw
                go_simp
                try with_reducible rfl
              try simp only [Act.put, List.setIfInBounds_toArray, List.set_cons_zero, List.set_cons_succ]
              refine wpAnyH_take (i := 17) (oi := { dst := some 116, op := Op.binOp BinOp.eql 3 (Operand.tmp 114) (Operand.tmp 115) 3, type := 4, pos := "outright.go:54", after := #[{ on := 15, ground := Ground.data }, { on := 16, ground := Ground.data }, { on := 10, ground := Ground.guard }], guard := some (10, true) }) (v := ?_) rfl (by kernel_rfl) (by kernel_rfl) (by kernel_rfl) (fun _ _ _ h => h) (Or.inl ⟨by rfl, ?_⟩) hHeld ?_
              rotate_left
              · intro w hSw
                clear hSw
                go_simp
                try with_reducible rfl
              try simp only [Act.put, List.setIfInBounds_toArray, List.set_cons_zero, List.set_cons_succ]
              refine wpAnyH_take (i := 18) (oi := { dst := some 117, op := Op.pick (Operand.tmp 109) (Operand.tmp 116) (Operand.const (Value.bool false)), type := 4, pos := "outright.go:54", after := #[{ on := 10, ground := Ground.data }, { on := 17, ground := Ground.data }], guard := none }) (v := ?_) rfl (by kernel_rfl) (by kernel_rfl) (by kernel_rfl) (fun _ _ _ h => h) (Or.inl ⟨by rfl, ?_⟩) hHeld ?_
              rotate_left
              · intro w hSw
                clear hSw
                go_simp
                try with_reducible rfl
              try simp only [Act.put, List.setIfInBounds_toArray, List.set_cons_zero, List.set_cons_succ]
              refine wpAnyH_done (by kernel_rfl) ?_ _
              have HB8 : Hid (Below W.heap.size W w9) := HB7.out.trans (hHeld.mono HB7.out.size)
              clear hHeld HB9
              obtain ⟨l0, l1, l2, l3⟩ := HL.out.read HX.out HB8.out
              go_wp2_with fail
              exact ⟨⟨k + 1, B2, by omega, by go_num, rfl, HB8.out, HBE2, HM2⟩, by simp [intOf]; omega⟩
            · have HCV := Lib.hid hc
              have HBE2 := Lib.hid (BestIs.no HBE.out HX.out hc)
              clear hc
              refine wp_region_held_drew (S := fun w' => Below w7.heap.size w7 w') (by kernel_rfl) (below_drewN (Below.refl _ _) 1) (fun hHeld => ?_)
              refine wpAnyH_take (i := 0) (oi := { dst := some 99, op := Op.move (Operand.tmp 13), type := 3, pos := "outright.go:54", after := #[], guard := none }) (v := ?_) rfl (by kernel_rfl) (by kernel_rfl) (by kernel_rfl) (fun _ _ _ h => h) (Or.inl ⟨by rfl, ?_⟩) hHeld ?_
              rotate_left
              · intro w hSw
                clear hSw
                go_simp
                try with_reducible rfl
              try simp only [Act.put, List.setIfInBounds_toArray, List.set_cons_zero, List.set_cons_succ]
              refine wpAnyH_take (i := 1) (oi := { dst := some 100, op := Op.binOp BinOp.gtr 3 (Operand.tmp 99) (Operand.const (Value.int IntKind.i64 0)) 3, type := 4, pos := "outright.go:54", after := #[{ on := 0, ground := Ground.data }], guard := none }) (v := ?_) rfl (by kernel_rfl) (by kernel_rfl) (by kernel_rfl) (fun _ _ _ h => h) (Or.inl ⟨by rfl, ?_⟩) hHeld ?_
              rotate_left
              · intro w hSw
                clear hSw
                go_simp
                try with_reducible rfl
              try simp only [Act.put, List.setIfInBounds_toArray, List.set_cons_zero, List.set_cons_succ]
              refine wpAnyH_take (i := 2) (oi := { dst := some 101, op := Op.move (Operand.tmp 100), type := 4, pos := "outright.go:54", after := #[{ on := 1, ground := Ground.data }], guard := none }) (v := ?_) rfl (by kernel_rfl) (by kernel_rfl) (by kernel_rfl) (fun _ _ _ h => h) (Or.inl ⟨by rfl, ?_⟩) hHeld ?_
              rotate_left
              · intro w hSw
                clear hSw
                go_simp
                try with_reducible rfl
              try simp only [Act.put, List.setIfInBounds_toArray, List.set_cons_zero, List.set_cons_succ]
              refine wpAnyH_take (i := 3) (oi := { dst := some 102, op := Op.move (Operand.tmp 0), type := 22, pos := "outright.go:54", after := #[{ on := 2, ground := Ground.guard }], guard := some (2, true) }) (v := ?_) rfl (by kernel_rfl) (by kernel_rfl) (by kernel_rfl) (fun _ _ _ h => h) (Or.inl ⟨by rfl, ?_⟩) hHeld ?_
              rotate_left
              · intro w hSw
                clear hSw
                go_simp
                try with_reducible rfl
              try simp only [Act.put, List.setIfInBounds_toArray, List.set_cons_zero, List.set_cons_succ]
              refine wpAnyH_take (i := 4) (oi := { dst := some 103, op := Op.move (Operand.tmp 14), type := 3, pos := "outright.go:54", after := #[{ on := 2, ground := Ground.guard }], guard := some (2, true) }) (v := ?_) rfl (by kernel_rfl) (by kernel_rfl) (by kernel_rfl) (fun _ _ _ h => h) (Or.inl ⟨by rfl, ?_⟩) hHeld ?_
              rotate_left
              · intro w hSw
                clear hSw
                go_simp
                try with_reducible rfl
              try simp only [Act.put, List.setIfInBounds_toArray, List.set_cons_zero, List.set_cons_succ]
              refine wpAnyH_take (i := 5) (oi := { dst := some 104, op := Op.indexAddr 22 (Operand.tmp 102) (Operand.tmp 103), type := 0, pos := "outright.go:54", after := #[{ on := 3, ground := Ground.data }, { on := 4, ground := Ground.data }, { on := 2, ground := Ground.guard }], guard := some (2, true) }) (v := ?_) rfl (by kernel_rfl) (by kernel_rfl) (by kernel_rfl) (fun _ _ _ h => h) (Or.inl ⟨by rfl, ?_⟩) hHeld ?_
              rotate_left
              · intro w hSw
                clear hSw
                go_simp
                try with_reducible rfl
              try simp only [Act.put, List.setIfInBounds_toArray, List.set_cons_zero, List.set_cons_succ]
              refine wpAnyH_take (i := 6) (oi := { dst := some 105, op := Op.load 30 (Operand.tmp 104), type := 30, pos := "outright.go:54", after := #[{ on := 5, ground := Ground.data }, { on := 2, ground := Ground.guard }], guard := some (2, true) }) (v := ?_) rfl (by kernel_rfl) (by kernel_rfl) (by kernel_rfl) (fun _ _ _ h => h) (Or.inl ⟨by rfl, ?_⟩) hHeld ?_
              rotate_left
              · intro w hSw
                obtain ⟨l0, l1, l2, l3⟩ := HL.out.read HX.out (HB7.out.trans (hSw.mono HB7.out.size))
                obtain ⟨p0, p1, p2, p3, _⟩ := c4_at (HQ.out.below hSw HQ.out.lt)
                go_simp
                try with_reducible rfl
              try simp only [Act.put, List.setIfInBounds_toArray, List.set_cons_zero, List.set_cons_succ]
              refine wpAnyH_take (i := 7) (oi := { dst := some 106, op := Op.load 30 (Operand.tmp 15), type := 30, pos := "outright.go:54", after := #[{ on := 2, ground := Ground.guard }], guard := some (2, true) }) (v := ?_) rfl (by kernel_rfl) (by kernel_rfl) (by kernel_rfl) (fun _ _ _ h => h) (Or.inl ⟨by rfl, ?_⟩) hHeld ?_
              rotate_left
              · intro w hSw
                obtain ⟨l0, l1, l2, l3⟩ := HL.out.read HX.out (HB7.out.trans (hSw.mono HB7.out.size))
                obtain ⟨p0, p1, p2, p3, _⟩ := c4_at (HQ.out.below hSw HQ.out.lt)
                go_simp
                try with_reducible rfl
              try simp only [Act.put, List.setIfInBounds_toArray, List.set_cons_zero, List.set_cons_succ]
              refine wpAnyH_ready (rs := [8]) (by kernel_rfl) (by simp) ?_
              refine AllReadyH.cons (o := { dst := some 107, op := Op.call { callee := Callee.value (Operand.func 10), args := #[Operand.tmp 105, Operand.tmp 106], argTypes := #[30, 30] }, type := 4, pos := "outright.go:54", after := #[{ on := 6, ground := Ground.data }, { on := 7, ground := Ground.data }, { on := 2, ground := Ground.chain }, { on := 2, ground := Ground.guard }], guard := some (2, true) }) rfl (fun K hK => ?_) AllReadyH.nil
              go_simp
              refine (covers_any x (⟨1, 0, next, 32⟩ : Tp) HOK.out _).mono ?_
              rintro e w9 ⟨hb9, r, rfl, hr⟩
              obtain rfl : r = false := by
                cases r with
                | false => rfl
                | true => exact absurd (hr.1 rfl) HCV.out
              have HB9 := Lib.hid hb9
              clear hr hb9
              go_wp2_with fail
              refine hK.out _ _ (hHeld.trans (HB9.out.mono hHeld.size)) (fun hHeld => ?_)
              clear hK K
              try simp only [Act.put, List.setIfInBounds_toArray, List.set_cons_zero, List.set_cons_succ]
              refine wpAnyH_take (i := 9) (oi := { dst := some 108, op := Op.pick (Operand.tmp 101) (Operand.tmp 107) (Operand.const (Value.bool false)), type := 4, pos := "outright.go:54", after := #[{ on := 2, ground := Ground.data }, { on := 8, ground := Ground.data }], guard := none }) (v := ?_) rfl (by kernel_rfl) (by kernel_rfl) (by kernel_rfl) (fun _ _ _ h => h) (Or.inl ⟨by rfl, ?_⟩) hHeld ?_
              rotate_left
              · intro w hSw
                clear hSw
                go_simp
                try with_reducible rfl
              try simp only [Act.put, List.setIfInBounds_toArray, List.set_cons_zero, List.set_cons_succ]
              refine wpAnyH_take (i := 10) (oi := { dst := some 109, op := Op.move (Operand.tmp 108), type := 4, pos := "outright.go:54", after := #[{ on := 9, ground := Ground.data }, { on := 8, ground := Ground.chain }], guard := none }) (v := ?_) rfl (by kernel_rfl) (by kernel_rfl) (by kernel_rfl) (fun _ _ _ h => h) (Or.inl ⟨by rfl, ?_⟩) hHeld ?_
              rotate_left
              · intro w hSw
                clear hSw
                go_simp
                try with_reducible rfl
              try simp only [Act.put, List.setIfInBounds_toArray, List.set_cons_zero, List.set_cons_succ]
              refine wpAnyH_take (i := 11) (oi := { dst := some 110, op := Op.move (Operand.tmp 0), type := 22, pos := "outright.go:54", after := #[{ on := 10, ground := Ground.guard }], guard := some (10, true) }) (v := undef) rfl (by kernel_rfl) (by kernel_rfl) (by kernel_rfl) (fun _ _ _ h => h) (Or.inr ⟨by rfl, rfl⟩) hHeld ?_
              try simp only [Act.put, List.setIfInBounds_toArray, List.set_cons_zero, List.set_cons_succ]
              refine wpAnyH_take (i := 12) (oi := { dst := some 111, op := Op.move (Operand.tmp 14), type := 3, pos := "outright.go:54", after := #[{ on := 10, ground := Ground.guard }], guard := some (10, true) }) (v := undef) rfl (by kernel_rfl) (by kernel_rfl) (by kernel_rfl) (fun _ _ _ h => h) (Or.inr ⟨by rfl, rfl⟩) hHeld ?_
              try simp only [Act.put, List.setIfInBounds_toArray, List.set_cons_zero, List.set_cons_succ]
              refine wpAnyH_take (i := 13) (oi := { dst := some 112, op := Op.indexAddr 22 (Operand.tmp 110) (Operand.tmp 111), type := 0, pos := "outright.go:54", after := #[{ on := 11, ground := Ground.data }, { on := 12, ground := Ground.data }, { on := 10, ground := Ground.guard }], guard := some (10, true) }) (v := undef) rfl (by kernel_rfl) (by kernel_rfl) (by kernel_rfl) (fun _ _ _ h => h) (Or.inr ⟨by rfl, rfl⟩) hHeld ?_
              try simp only [Act.put, List.setIfInBounds_toArray, List.set_cons_zero, List.set_cons_succ]
              refine wpAnyH_take (i := 14) (oi := { dst := some 113, op := Op.fieldAddr 30 (Operand.tmp 112) 0, type := 0, pos := "outright.go:54", after := #[{ on := 13, ground := Ground.data }, { on := 10, ground := Ground.guard }], guard := some (10, true) }) (v := undef) rfl (by kernel_rfl) (by kernel_rfl) (by kernel_rfl) (fun _ _ _ h => h) (Or.inr ⟨by rfl, rfl⟩) hHeld ?_
              try simp only [Act.put, List.setIfInBounds_toArray, List.set_cons_zero, List.set_cons_succ]
              refine wpAnyH_take (i := 15) (oi := { dst := some 114, op := Op.load 3 (Operand.tmp 113), type := 3, pos := "outright.go:54", after := #[{ on := 14, ground := Ground.data }, { on := 10, ground := Ground.guard }], guard := some (10, true) }) (v := undef) rfl (by kernel_rfl) (by kernel_rfl) (by kernel_rfl) (fun _ _ _ h => h) (Or.inr ⟨by rfl, rfl⟩) hHeld ?_
              try simp only [Act.put, List.setIfInBounds_toArray, List.set_cons_zero, List.set_cons_succ]
              refine wpAnyH_take (i := 16) (oi := { dst := some 115, op := Op.move (Operand.tmp 13), type := 3, pos := "outright.go:54", after := #[{ on := 10, ground := Ground.guard }], guard := some (10, true) }) (v := undef) rfl (by kernel_rfl) (by kernel_rfl) (by kernel_rfl) (fun _ _ _ h => h) (Or.inr ⟨by rfl, rfl⟩) hHeld ?_
              try simp only [Act.put, List.setIfInBounds_toArray, List.set_cons_zero, List.set_cons_succ]
              refine wpAnyH_take (i := 17) (oi := { dst := some 116, op := Op.binOp BinOp.eql 3 (Operand.tmp 114) (Operand.tmp 115) 3, type := 4, pos := "outright.go:54", after := #[{ on := 15, ground := Ground.data }, { on := 16, ground := Ground.data }, { on := 10, ground := Ground.guard }], guard := some (10, true) }) (v := undef) rfl (by kernel_rfl) (by kernel_rfl) (by kernel_rfl) (fun _ _ _ h => h) (Or.inr ⟨by rfl, rfl⟩) hHeld ?_
              try simp only [Act.put, List.setIfInBounds_toArray, List.set_cons_zero, List.set_cons_succ]
              refine wpAnyH_take (i := 18) (oi := { dst := some 117, op := Op.pick (Operand.tmp 109) (Operand.tmp 116) (Operand.const (Value.bool false)), type := 4, pos := "outright.go:54", after := #[{ on := 10, ground := Ground.data }, { on := 17, ground := Ground.data }], guard := none }) (v := ?_) rfl (by kernel_rfl) (by kernel_rfl) (by kernel_rfl) (fun _ _ _ h => h) (Or.inl ⟨by rfl, ?_⟩) hHeld ?_
              rotate_left
              · intro w hSw
                clear hSw
                go_simp
                try with_reducible rfl
              try simp only [Act.put, List.setIfInBounds_toArray, List.set_cons_zero, List.set_cons_succ]
              refine wpAnyH_done (by kernel_rfl) ?_ _
              have HB8 : Hid (Below W.heap.size W w9) := HB7.out.trans (hHeld.mono HB7.out.size)
              clear hHeld HB9
              go_wp2_with fail
              exact ⟨⟨k + 1, best, by omega, by go_num, rfl, HB8.out, HBE2, HM1⟩, by simp [intOf]; omega⟩
          · obtain rfl : N = k := by omega
            have hfin := BestIs.of (p := ⟨1, 0, next, 32⟩) (by rw [HLN.out]; exact HBE.out) HLG.out (by simp) (fun y => Iff.rfl)
            cases ba with
            | true =>
              have h1 : decide (0 ≤ best) = true := decide_eq_true (hfin.1.1 rfl)
              obtain rfl : xa = best := hfin.2 rfl
              clear hfin
              go_wp2_with fail
              go_ret
              exact ⟨rfl, HBr.out⟩
            | false =>
              have h1 : decide (0 ≤ best) = false := decide_eq_false (fun h => by cases hfin.1.2 h)
              clear hfin
              go_wp2_with fail
              go_ret
              exact ⟨rfl, HBr.out⟩
      · by_cases s16 : next.size = 16
        · have HLG : Hid (LongM (LM L (fun _ => True)) ⟨2, 0, next, 128⟩ xa ba) := by
            have := HCA.out
            unfold CostOf at this
            rw [if_neg s4, if_pos s16] at this
            exact this
          have HOK := Lib.hid (whole_ok16 s16)
          have e4 : ((next.size : Int) == 4) = false := by rw [beq_eq_false_iff_ne]; omega
          have e16 : ((next.size : Int) == 16) = true := by rw [beq_iff_eq]; omega
          have hw8 : IntKind.i64.wrap (8 * (next.size : Int)) = 128 := by
            rw [s16]
            rfl
          clear s4 s16 HCA
          go_wp2_with fail
          go_loopw [14, 12] (fun i bv wr => ∃ (k : Nat) (best : Int), k ≤ N ∧ i = .int .i64 k ∧ bv = .int .i64 best ∧ Hid (Below W.heap.size W wr) ∧ Hid (BestIs L (fun z => covX z ⟨2, 0, next, 128⟩) k best) ∧ Hid (-1 ≤ best)) (fun i _ _ => N + 1 - (intOf i).toNat)
          case atStart => exact ⟨0, -1, Nat.zero_le _, rfl, rfl, H65.out, BestIs.zero _ _, by show (-1 : Int) ≤ -1; omega⟩
          case round =>
            obtain ⟨k, best, hk, rfl, rfl, HBr, HBE, HM1⟩ := hrel
            by_cases hlt : k < N
            · obtain ⟨x, hx⟩ : ∃ x, L[k]? = some x := ⟨L[k]'(by rw [HLN.out]; exact hlt), List.getElem?_eq_getElem _⟩
              obtain ⟨b0, off, rfl, _, _⟩ := HL.out.at_ (by rw [HLN.out]; omega)
              have HX := Lib.hid hx
              clear hx
              go_wp2_with fail
              refine wp_name fun w7 hw7 => ?_
              have HQ : Hid (CellsAt w7 wr.heap.size #[.int .i64 2, .int .u64 0, .string next, .int .i64 128] 30) := by
                rw [hw7]
                exact CellsAt.new' _ _ (by simp) _ _
              have HB7 : Hid (Below W.heap.size W w7) := by
                rw [hw7]
                clear hw7
                show Below _ _ _
                have hs := HBr.out.size
                repeat' (first | with_reducible exact HBr.out | with_reducible refine Below.setCell ?_ (by first | omega | (simp; omega) | simp) _ | with_reducible refine Below.alloc ?_ (by first | omega | (simp; omega) | simp) _)
              clear hw7
              by_cases hc : covX x ⟨2, 0, next, 128⟩
              · have HCV := Lib.hid hc
                have hxf : x.fam = 2 := hc.2.1
                have e5 : (x.fam == 2) = true := by rw [beq_iff_eq]; exact hxf
                obtain ⟨B2, hB2⟩ : ∃ B : Int, max best x.len = B := ⟨_, rfl⟩
                have hB3 : (if best < x.len then x.len else best) = B2 := by rw [← hB2]; split <;> omega
                have HBE2 : Hid (BestIs L (fun z => covX z ⟨2, 0, next, 128⟩) (k + 1) B2) := by
                  rw [← hB2]
                  exact BestIs.yes HBE.out HX.out hc (by have := hc.1.2.2.1; omega)
                have HM2 : Hid (-1 ≤ B2) := by
                  have := HM1.out
                  show -1 ≤ B2
                  omega
                clear hc hxf
                refine wp_region_held_drew (S := fun w' => Below w7.heap.size w7 w') (by kernel_rfl) (below_drewN (Below.refl _ _) 1) (fun hHeld => ?_)
                refine wpAnyH_take (i := 0) (oi := { dst := some 99, op := Op.move (Operand.tmp 13), type := 3, pos := "outright.go:54", after := #[], guard := none }) (v := ?_) rfl (by kernel_rfl) (by kernel_rfl) (by kernel_rfl) (fun _ _ _ h => h) (Or.inl ⟨by rfl, ?_⟩) hHeld ?_
                rotate_left
                · intro w hSw
                  clear hSw
                  go_simp
                  try with_reducible rfl
                try simp only [Act.put, List.setIfInBounds_toArray, List.set_cons_zero, List.set_cons_succ]
                refine wpAnyH_take (i := 1) (oi := { dst := some 100, op := Op.binOp BinOp.gtr 3 (Operand.tmp 99) (Operand.const (Value.int IntKind.i64 0)) 3, type := 4, pos := "outright.go:54", after := #[{ on := 0, ground := Ground.data }], guard := none }) (v := ?_) rfl (by kernel_rfl) (by kernel_rfl) (by kernel_rfl) (fun _ _ _ h => h) (Or.inl ⟨by rfl, ?_⟩) hHeld ?_
                rotate_left
                · intro w hSw
                  clear hSw
                  go_simp
                  try with_reducible rfl
                try simp only [Act.put, List.setIfInBounds_toArray, List.set_cons_zero, List.set_cons_succ]
                refine wpAnyH_take (i := 2) (oi := { dst := some 101, op := Op.move (Operand.tmp 100), type := 4, pos := "outright.go:54", after := #[{ on := 1, ground := Ground.data }], guard := none }) (v := ?_) rfl (by kernel_rfl) (by kernel_rfl) (by kernel_rfl) (fun _ _ _ h => h) (Or.inl ⟨by rfl, ?_⟩) hHeld ?_
                rotate_left
                · intro w hSw
                  clear hSw
                  go_simp
                  try with_reducible rfl
                try simp only [Act.put, List.setIfInBounds_toArray, List.set_cons_zero, List.set_cons_succ]
                refine wpAnyH_take (i := 3) (oi := { dst := some 102, op := Op.move (Operand.tmp 0), type := 22, pos := "outright.go:54", after := #[{ on := 2, ground := Ground.guard }], guard := some (2, true) }) (v := ?_) rfl (by kernel_rfl) (by kernel_rfl) (by kernel_rfl) (fun _ _ _ h => h) (Or.inl ⟨by rfl, ?_⟩) hHeld ?_
                rotate_left
                · intro w hSw
                  clear hSw
                  go_simp
                  try with_reducible rfl
                try simp only [Act.put, List.setIfInBounds_toArray, List.set_cons_zero, List.set_cons_succ]
                refine wpAnyH_take (i := 4) (oi := { dst := some 103, op := Op.move (Operand.tmp 14), type := 3, pos := "outright.go:54", after := #[{ on := 2, ground := Ground.guard }], guard := some (2, true) }) (v := ?_) rfl (by kernel_rfl) (by kernel_rfl) (by kernel_rfl) (fun _ _ _ h => h) (Or.inl ⟨by rfl, ?_⟩) hHeld ?_
                rotate_left
                · intro w hSw
                  clear hSw
                  go_simp
                  try with_reducible rfl
                try simp only [Act.put, List.setIfInBounds_toArray, List.set_cons_zero, List.set_cons_succ]
                refine wpAnyH_take (i := 5) (oi := { dst := some 104, op := Op.indexAddr 22 (Operand.tmp 102) (Operand.tmp 103), type := 0, pos := "outright.go:54", after := #[{ on := 3, ground := Ground.data }, { on := 4, ground := Ground.data }, { on := 2, ground := Ground.guard }], guard := some (2, true) }) (v := ?_) rfl (by kernel_rfl) (by kernel_rfl) (by kernel_rfl) (fun _ _ _ h => h) (Or.inl ⟨by rfl, ?_⟩) hHeld ?_
                rotate_left
                · intro w hSw
                  clear hSw
                  go_simp
                  try with_reducible rfl
                try simp only [Act.put, List.setIfInBounds_toArray, List.set_cons_zero, List.set_cons_succ]
                refine wpAnyH_take (i := 6) (oi := { dst := some 105, op := Op.load 30 (Operand.tmp 104), type := 30, pos := "outright.go:54", after := #[{ on := 5, ground := Ground.data }, { on := 2, ground := Ground.guard }], guard := some (2, true) }) (v := ?_) rfl (by kernel_rfl) (by kernel_rfl) (by kernel_rfl) (fun _ _ _ h => h) (Or.inl ⟨by rfl, ?_⟩) hHeld ?_
                rotate_left
                · intro w hSw
                  obtain ⟨l0, l1, l2, l3⟩ := HL.out.read HX.out (HB7.out.trans (hSw.mono HB7.out.size))
                  obtain ⟨p0, p1, p2, p3, _⟩ := c4_at (HQ.out.below hSw HQ.out.lt)
                  go_simp
                  try with_reducible rfl
                try simp only [Act.put, List.setIfInBounds_toArray, List.set_cons_zero, List.set_cons_succ]
                refine wpAnyH_take (i := 7) (oi := { dst := some 106, op := Op.load 30 (Operand.tmp 15), type := 30, pos := "outright.go:54", after := #[{ on := 2, ground := Ground.guard }], guard := some (2, true) }) (v := ?_) rfl (by kernel_rfl) (by kernel_rfl) (by kernel_rfl) (fun _ _ _ h => h) (Or.inl ⟨by rfl, ?_⟩) hHeld ?_
                rotate_left
                · intro w hSw
                  obtain ⟨l0, l1, l2, l3⟩ := HL.out.read HX.out (HB7.out.trans (hSw.mono HB7.out.size))
                  obtain ⟨p0, p1, p2, p3, _⟩ := c4_at (HQ.out.below hSw HQ.out.lt)
                  go_simp
                  try with_reducible rfl
                try simp only [Act.put, List.setIfInBounds_toArray, List.set_cons_zero, List.set_cons_succ]
                refine wpAnyH_ready (rs := [8]) (by kernel_rfl) (by simp) ?_
                refine AllReadyH.cons (o := { dst := some 107, op := Op.call { callee := Callee.value (Operand.func 10), args := #[Operand.tmp 105, Operand.tmp 106], argTypes := #[30, 30] }, type := 4, pos := "outright.go:54", after := #[{ on := 6, ground := Ground.data }, { on := 7, ground := Ground.data }, { on := 2, ground := Ground.chain }, { on := 2, ground := Ground.guard }], guard := some (2, true) }) rfl (fun K hK => ?_) AllReadyH.nil
                go_simp
                refine (covers_any x (⟨2, 0, next, 128⟩ : Tp) HOK.out _).mono ?_
                rintro e w9 ⟨hb9, r, rfl, hr⟩
                obtain rfl : r = true := hr.2 HCV.out
                have HB9 := Lib.hid hb9
                clear hr hb9
                go_wp2_with fail
                refine hK.out _ _ (hHeld.trans (HB9.out.mono hHeld.size)) (fun hHeld => ?_)
                clear hK K
                try simp only [Act.put, List.setIfInBounds_toArray, List.set_cons_zero, List.set_cons_succ]
                refine wpAnyH_take (i := 9) (oi := { dst := some 108, op := Op.pick (Operand.tmp 101) (Operand.tmp 107) (Operand.const (Value.bool false)), type := 4, pos := "outright.go:54", after := #[{ on := 2, ground := Ground.data }, { on := 8, ground := Ground.data }], guard := none }) (v := ?_) rfl (by kernel_rfl) (by kernel_rfl) (by kernel_rfl) (fun _ _ _ h => h) (Or.inl ⟨by rfl, ?_⟩) hHeld ?_
                rotate_left
                · intro w hSw
                  clear hSw
                  go_simp
                  try with_reducible rfl
                try simp only [Act.put, List.setIfInBounds_toArray, List.set_cons_zero, List.set_cons_succ]
                refine wpAnyH_take (i := 10) (oi := { dst := some 109, op := Op.move (Operand.tmp 108), type := 4, pos := "outright.go:54", after := #[{ on := 9, ground := Ground.data }, { on := 8, ground := Ground.chain }], guard := none }) (v := ?_) rfl (by kernel_rfl) (by kernel_rfl) (by kernel_rfl) (fun _ _ _ h => h) (Or.inl ⟨by rfl, ?_⟩) hHeld ?_
                rotate_left
                · intro w hSw
                  clear hSw
                  go_simp
                  try with_reducible rfl
                try simp only [Act.put, List.setIfInBounds_toArray, List.set_cons_zero, List.set_cons_succ]
                refine wpAnyH_take (i := 11) (oi := { dst := some 110, op := Op.move (Operand.tmp 0), type := 22, pos := "outright.go:54", after := #[{ on := 10, ground := Ground.guard }], guard := some (10, true) }) (v := ?_) rfl (by kernel_rfl) (by kernel_rfl) (by kernel_rfl) (fun _ _ _ h => h) (Or.inl ⟨by rfl, ?_⟩) hHeld ?_
                rotate_left
                · intro w hSw
                  clear hSw
                  go_simp
                  try with_reducible rfl
                try simp only [Act.put, List.setIfInBounds_toArray, List.set_cons_zero, List.set_cons_succ]
                refine wpAnyH_take (i := 12) (oi := { dst := some 111, op := Op.move (Operand.tmp 14), type := 3, pos := "outright.go:54", after := #[{ on := 10, ground := Ground.guard }], guard := some (10, true) }) (v := ?_) rfl (by kernel_rfl) (by kernel_rfl) (by kernel_rfl) (fun _ _ _ h => h) (Or.inl ⟨by rfl, ?_⟩) hHeld ?_
                rotate_left
                · intro w hSw
                  clear hSw
                  go_simp
                  try with_reducible rfl
                try simp only [Act.put, List.setIfInBounds_toArray, List.set_cons_zero, List.set_cons_succ]
                refine wpAnyH_take (i := 13) (oi := { dst := some 112, op := Op.indexAddr 22 (Operand.tmp 110) (Operand.tmp 111), type := 0, pos := "outright.go:54", after := #[{ on := 11, ground := Ground.data }, { on := 12, ground := Ground.data }, { on := 10, ground := Ground.guard }], guard := some (10, true) }) (v := ?_) rfl (by kernel_rfl) (by kernel_rfl) (by kernel_rfl) (fun _ _ _ h => h) (Or.inl ⟨by rfl, ?_⟩) hHeld ?_
                rotate_left
                · intro w hSw
                  clear hSw
                  go_simp
                  try with_reducible rfl
                try simp only [Act.put, List.setIfInBounds_toArray, List.set_cons_zero, List.set_cons_succ]
                refine wpAnyH_take (i := 14) (oi := { dst := some 113, op := Op.fieldAddr 30 (Operand.tmp 112) 0, type := 0, pos := "outright.go:54", after := #[{ on := 13, ground := Ground.data }, { on := 10, ground := Ground.guard }], guard := some (10, true) }) (v := ?_) rfl (by kernel_rfl) (by kernel_rfl) (by kernel_rfl) (fun _ _ _ h => h) (Or.inl ⟨by rfl, ?_⟩) hHeld ?_
                rotate_left
                · intro w hSw
                  clear hSw
                  go_simp
                  try with_reducible rfl
                try simp only [Act.put, List.setIfInBounds_toArray, List.set_cons_zero, List.set_cons_succ]
                refine wpAnyH_take (i := 15) (oi := { dst := some 114, op := Op.load 3 (Operand.tmp 113), type := 3, pos := "outright.go:54", after := #[{ on := 14, ground := Ground.data }, { on := 10, ground := Ground.guard }], guard := some (10, true) }) (v := ?_) rfl (by kernel_rfl) (by kernel_rfl) (by kernel_rfl) (fun _ _ _ h => h) (Or.inl ⟨by rfl, ?_⟩) hHeld ?_
                rotate_left
                · intro w hSw
                  obtain ⟨l0, l1, l2, l3⟩ := HL.out.read HX.out (HB7.out.trans (hSw.mono HB7.out.size))
                  obtain ⟨p0, p1, p2, p3, _⟩ := c4_at (HQ.out.below hSw HQ.out.lt)
                  go_simp
                  try with_reducible rfl
                try simp only [Act.put, List.setIfInBounds_toArray, List.set_cons_zero, List.set_cons_succ]
                refine wpAnyH_take (i := 16) (oi := { dst := some 115, op := Op.move (Operand.tmp 13), type := 3, pos := "outright.go:54", after := #[{ on := 10, ground := Ground.guard }], guard := some (10, true) }) (v := ?_) rfl (by kernel_rfl) (by kernel_rfl) (by kernel_rfl) (fun _ _ _ h => h) (Or.inl ⟨by rfl, ?_⟩) hHeld ?_
                rotate_left
                · intro w hSw
                  clear hSw
                  go_simp
                  try with_reducible rfl
                try simp only [Act.put, List.setIfInBounds_toArray, List.set_cons_zero, List.set_cons_succ]
                refine wpAnyH_take (i := 17) (oi := { dst := some 116, op := Op.binOp BinOp.eql 3 (Operand.tmp 114) (Operand.tmp 115) 3, type := 4, pos := "outright.go:54", after := #[{ on := 15, ground := Ground.data }, { on := 16, ground := Ground.data }, { on := 10, ground := Ground.guard }], guard := some (10, true) }) (v := ?_) rfl (by kernel_rfl) (by kernel_rfl) (by kernel_rfl) (fun _ _ _ h => h) (Or.inl ⟨by rfl, ?_⟩) hHeld ?_
                rotate_left
                · intro w hSw
                  clear hSw
                  go_simp
                  try with_reducible rfl
                try simp only [Act.put, List.setIfInBounds_toArray, List.set_cons_zero, List.set_cons_succ]
                refine wpAnyH_take (i := 18) (oi := { dst := some 117, op := Op.pick (Operand.tmp 109) (Operand.tmp 116) (Operand.const (Value.bool false)), type := 4, pos := "outright.go:54", after := #[{ on := 10, ground := Ground.data }, { on := 17, ground := Ground.data }], guard := none }) (v := ?_) rfl (by kernel_rfl) (by kernel_rfl) (by kernel_rfl) (fun _ _ _ h => h) (Or.inl ⟨by rfl, ?_⟩) hHeld ?_
                rotate_left
                · intro w hSw
                  clear hSw
                  go_simp
                  try with_reducible rfl
                try simp only [Act.put, List.setIfInBounds_toArray, List.set_cons_zero, List.set_cons_succ]
                refine wpAnyH_done (by kernel_rfl) ?_ _
                have HB8 : Hid (Below W.heap.size W w9) := HB7.out.trans (hHeld.mono HB7.out.size)
                clear hHeld HB9
                obtain ⟨l0, l1, l2, l3⟩ := HL.out.read HX.out HB8.out
                go_wp2_with fail
                exact ⟨⟨k + 1, B2, by omega, by go_num, rfl, HB8.out, HBE2, HM2⟩, by simp [intOf]; omega⟩
              · have HCV := Lib.hid hc
                have HBE2 := Lib.hid (BestIs.no HBE.out HX.out hc)
                clear hc
                refine wp_region_held_drew (S := fun w' => Below w7.heap.size w7 w') (by kernel_rfl) (below_drewN (Below.refl _ _) 1) (fun hHeld => ?_)
                refine wpAnyH_take (i := 0) (oi := { dst := some 99, op := Op.move (Operand.tmp 13), type := 3, pos := "outright.go:54", after := #[], guard := none }) (v := ?_) rfl (by kernel_rfl) (by kernel_rfl) (by kernel_rfl) (fun _ _ _ h => h) (Or.inl ⟨by rfl, ?_⟩) hHeld ?_
                rotate_left
                · intro w hSw
                  clear hSw
                  go_simp
                  try with_reducible rfl
                try simp only [Act.put, List.setIfInBounds_toArray, List.set_cons_zero, List.set_cons_succ]
                refine wpAnyH_take (i := 1) (oi := { dst := some 100, op := Op.binOp BinOp.gtr 3 (Operand.tmp 99) (Operand.const (Value.int IntKind.i64 0)) 3, type := 4, pos := "outright.go:54", after := #[{ on := 0, ground := Ground.data }], guard := none }) (v := ?_) rfl (by kernel_rfl) (by kernel_rfl) (by kernel_rfl) (fun _ _ _ h => h) (Or.inl ⟨by rfl, ?_⟩) hHeld ?_
                rotate_left
                · intro w hSw
                  clear hSw
                  go_simp
                  try with_reducible rfl
                try simp only [Act.put, List.setIfInBounds_toArray, List.set_cons_zero, List.set_cons_succ]
                refine wpAnyH_take (i := 2) (oi := { dst := some 101, op := Op.move (Operand.tmp 100), type := 4, pos := "outright.go:54", after := #[{ on := 1, ground := Ground.data }], guard := none }) (v := ?_) rfl (by kernel_rfl) (by kernel_rfl) (by kernel_rfl) (fun _ _ _ h => h) (Or.inl ⟨by rfl, ?_⟩) hHeld ?_
                rotate_left
                · intro w hSw
                  clear hSw
                  go_simp
                  try with_reducible rfl
                try simp only [Act.put, List.setIfInBounds_toArray, List.set_cons_zero, List.set_cons_succ]
                refine wpAnyH_take (i := 3) (oi := { dst := some 102, op := Op.move (Operand.tmp 0), type := 22, pos := "outright.go:54", after := #[{ on := 2, ground := Ground.guard }], guard := some (2, true) }) (v := ?_) rfl (by kernel_rfl) (by kernel_rfl) (by kernel_rfl) (fun _ _ _ h => h) (Or.inl ⟨by rfl, ?_⟩) hHeld ?_
                rotate_left
                · intro w hSw
                  clear hSw
                  go_simp
                  try with_reducible rfl
                try simp only [Act.put, List.setIfInBounds_toArray, List.set_cons_zero, List.set_cons_succ]
                refine wpAnyH_take (i := 4) (oi := { dst := some 103, op := Op.move (Operand.tmp 14), type := 3, pos := "outright.go:54", after := #[{ on := 2, ground := Ground.guard }], guard := some (2, true) }) (v := ?_) rfl (by kernel_rfl) (by kernel_rfl) (by kernel_rfl) (fun _ _ _ h => h) (Or.inl ⟨by rfl, ?_⟩) hHeld ?_
                rotate_left
                · intro w hSw
                  clear hSw
                  go_simp
                  try with_reducible rfl
                try simp only [Act.put, List.setIfInBounds_toArray, List.set_cons_zero, List.set_cons_succ]
                refine wpAnyH_take (i := 5) (oi := { dst := some 104, op := Op.indexAddr 22 (Operand.tmp 102) (Operand.tmp 103), type := 0, pos := "outright.go:54", after := #[{ on := 3, ground := Ground.data }, { on := 4, ground := Ground.data }, { on := 2, ground := Ground.guard }], guard := some (2, true) }) (v := ?_) rfl (by kernel_rfl) (by kernel_rfl) (by kernel_rfl) (fun _ _ _ h => h) (Or.inl ⟨by rfl, ?_⟩) hHeld ?_
                rotate_left
                · intro w hSw
                  clear hSw
                  go_simp
                  try with_reducible rfl
                try simp only [Act.put, List.setIfInBounds_toArray, List.set_cons_zero, List.set_cons_succ]
                refine wpAnyH_take (i := 6) (oi := { dst := some 105, op := Op.load 30 (Operand.tmp 104), type := 30, pos := "outright.go:54", after := #[{ on := 5, ground := Ground.data }, { on := 2, ground := Ground.guard }], guard := some (2, true) }) (v := ?_) rfl (by kernel_rfl) (by kernel_rfl) (by kernel_rfl) (fun _ _ _ h => h) (Or.inl ⟨by rfl, ?_⟩) hHeld ?_
                rotate_left
                · intro w hSw
                  obtain ⟨l0, l1, l2, l3⟩ := HL.out.read HX.out (HB7.out.trans (hSw.mono HB7.out.size))
                  obtain ⟨p0, p1, p2, p3, _⟩ := c4_at (HQ.out.below hSw HQ.out.lt)
                  go_simp
                  try with_reducible rfl
                try simp only [Act.put, List.setIfInBounds_toArray, List.set_cons_zero, List.set_cons_succ]
                refine wpAnyH_take (i := 7) (oi := { dst := some 106, op := Op.load 30 (Operand.tmp 15), type := 30, pos := "outright.go:54", after := #[{ on := 2, ground := Ground.guard }], guard := some (2, true) }) (v := ?_) rfl (by kernel_rfl) (by kernel_rfl) (by kernel_rfl) (fun _ _ _ h => h) (Or.inl ⟨by rfl, ?_⟩) hHeld ?_
                rotate_left
                · intro w hSw
                  obtain ⟨l0, l1, l2, l3⟩ := HL.out.read HX.out (HB7.out.trans (hSw.mono HB7.out.size))
                  obtain ⟨p0, p1, p2, p3, _⟩ := c4_at (HQ.out.below hSw HQ.out.lt)
                  go_simp
                  try with_reducible rfl
                try simp only [Act.put, List.setIfInBounds_toArray, List.set_cons_zero, List.set_cons_succ]
                refine wpAnyH_ready (rs := [8]) (by kernel_rfl) (by simp) ?_
                refine AllReadyH.cons (o := { dst := some 107, op := Op.call { callee := Callee.value (Operand.func 10), args := #[Operand.tmp 105, Operand.tmp 106], argTypes := #[30, 30] }, type := 4, pos := "outright.go:54", after := #[{ on := 6, ground := Ground.data }, { on := 7, ground := Ground.data }, { on := 2, ground := Ground.chain }, { on := 2, ground := Ground.guard }], guard := some (2, true) }) rfl (fun K hK => ?_) AllReadyH.nil
                go_simp
                refine (covers_any x (⟨2, 0, next, 128⟩ : Tp) HOK.out _).mono ?_
                rintro e w9 ⟨hb9, r, rfl, hr⟩
                obtain rfl : r = false := by
                  cases r with
                  | false => rfl
                  | true => exact absurd (hr.1 rfl) HCV.out
                have HB9 := Lib.hid hb9
                clear hr hb9
                go_wp2_with fail
                refine hK.out _ _ (hHeld.trans (HB9.out.mono hHeld.size)) (fun hHeld => ?_)
                clear hK K
                try simp only [Act.put, List.setIfInBounds_toArray, List.set_cons_zero, List.set_cons_succ]
                refine wpAnyH_take (i := 9) (oi := { dst := some 108, op := Op.pick (Operand.tmp 101) (Operand.tmp 107) (Operand.const (Value.bool false)), type := 4, pos := "outright.go:54", after := #[{ on := 2, ground := Ground.data }, { on := 8, ground := Ground.data }], guard := none }) (v := ?_) rfl (by kernel_rfl) (by kernel_rfl) (by kernel_rfl) (fun _ _ _ h => h) (Or.inl ⟨by rfl, ?_⟩) hHeld ?_
                rotate_left
                · intro w hSw
                  clear hSw
                  go_simp
                  try with_reducible rfl
                try simp only [Act.put, List.setIfInBounds_toArray, List.set_cons_zero, List.set_cons_succ]
                refine wpAnyH_take (i := 10) (oi := { dst := some 109, op := Op.move (Operand.tmp 108), type := 4, pos := "outright.go:54", after := #[{ on := 9, ground := Ground.data }, { on := 8, ground := Ground.chain }], guard := none }) (v := ?_) rfl (by kernel_rfl) (by kernel_rfl) (by kernel_rfl) (fun _ _ _ h => h) (Or.inl ⟨by rfl, ?_⟩) hHeld ?_
                rotate_left
                · intro w hSw
                  clear hSw
                  go_simp
                  try with_reducible rfl
                try simp only [Act.put, List.setIfInBounds_toArray, List.set_cons_zero, List.set_cons_succ]
                refine wpAnyH_take (i := 11) (oi := { dst := some 110, op := Op.move (Operand.tmp 0), type := 22, pos := "outright.go:54", after := #[{ on := 10, ground := Ground.guard }], guard := some (10, true) }) (v := undef) rfl (by kernel_rfl) (by kernel_rfl) (by kernel_rfl) (fun _ _ _ h => h) (Or.inr ⟨by rfl, rfl⟩) hHeld ?_
                try simp only [Act.put, List.setIfInBounds_toArray, List.set_cons_zero, List.set_cons_succ]
                refine wpAnyH_take (i := 12) (oi := { dst := some 111, op := Op.move (Operand.tmp 14), type := 3, pos := "outright.go:54", after := #[{ on := 10, ground := Ground.guard }], guard := some (10, true) }) (v := undef) rfl (by kernel_rfl) (by kernel_rfl) (by kernel_rfl) (fun _ _ _ h => h) (Or.inr ⟨by rfl, rfl⟩) hHeld ?_
                try simp only [Act.put, List.setIfInBounds_toArray, List.set_cons_zero, List.set_cons_succ]
                refine wpAnyH_take (i := 13) (oi := { dst := some 112, op := Op.indexAddr 22 (Operand.tmp 110) (Operand.tmp 111), type := 0, pos := "outright.go:54", after := #[{ on := 11, ground := Ground.data }, { on := 12, ground := Ground.data }, { on := 10, ground := Ground.guard }], guard := some (10, true) }) (v := undef) rfl (by kernel_rfl) (by kernel_rfl) (by kernel_rfl) (fun _ _ _ h => h) (Or.inr ⟨by rfl, rfl⟩) hHeld ?_
                try simp only [Act.put, List.setIfInBounds_toArray, List.set_cons_zero, List.set_cons_succ]
                refine wpAnyH_take (i := 14) (oi := { dst := some 113, op := Op.fieldAddr 30 (Operand.tmp 112) 0, type := 0, pos := "outright.go:54", after := #[{ on := 13, ground := Ground.data }, { on := 10, ground := Ground.guard }], guard := some (10, true) }) (v := undef) rfl (by kernel_rfl) (by kernel_rfl) (by kernel_rfl) (fun _ _ _ h => h) (Or.inr ⟨by rfl, rfl⟩) hHeld ?_
                try simp only [Act.put, List.setIfInBounds_toArray, List.set_cons_zero, List.set_cons_succ]
                refine wpAnyH_take (i := 15) (oi := { dst := some 114, op := Op.load 3 (Operand.tmp 113), type := 3, pos := "outright.go:54", after := #[{ on := 14, ground := Ground.data }, { on := 10, ground := Ground.guard }], guard := some (10, true) }) (v := undef) rfl (by kernel_rfl) (by kernel_rfl) (by kernel_rfl) (fun _ _ _ h => h) (Or.inr ⟨by rfl, rfl⟩) hHeld ?_
                try simp only [Act.put, List.setIfInBounds_toArray, List.set_cons_zero, List.set_cons_succ]
                refine wpAnyH_take (i := 16) (oi := { dst := some 115, op := Op.move (Operand.tmp 13), type := 3, pos := "outright.go:54", after := #[{ on := 10, ground := Ground.guard }], guard := some (10, true) }) (v := undef) rfl (by kernel_rfl) (by kernel_rfl) (by kernel_rfl) (fun _ _ _ h => h) (Or.inr ⟨by rfl, rfl⟩) hHeld ?_
                try simp only [Act.put, List.setIfInBounds_toArray, List.set_cons_zero, List.set_cons_succ]
                refine wpAnyH_take (i := 17) (oi := { dst := some 116, op := Op.binOp BinOp.eql 3 (Operand.tmp 114) (Operand.tmp 115) 3, type := 4, pos := "outright.go:54", after := #[{ on := 15, ground := Ground.data }, { on := 16, ground := Ground.data }, { on := 10, ground := Ground.guard }], guard := some (10, true) }) (v := undef) rfl (by kernel_rfl) (by kernel_rfl) (by kernel_rfl) (fun _ _ _ h => h) (Or.inr ⟨by rfl, rfl⟩) hHeld ?_
                try simp only [Act.put, List.setIfInBounds_toArray, List.set_cons_zero, List.set_cons_succ]
                refine wpAnyH_take (i := 18) (oi := { dst := some 117, op := Op.pick (Operand.tmp 109) (Operand.tmp 116) (Operand.const (Value.bool false)), type := 4, pos := "outright.go:54", after := #[{ on := 10, ground := Ground.data }, { on := 17, ground := Ground.data }], guard := none }) (v := ?_) rfl (by kernel_rfl) (by kernel_rfl) (by kernel_rfl) (fun _ _ _ h => h) (Or.inl ⟨by rfl, ?_⟩) hHeld ?_
                rotate_left
                · intro w hSw
                  clear hSw
                  go_simp
                  try with_reducible rfl
                try simp only [Act.put, List.setIfInBounds_toArray, List.set_cons_zero, List.set_cons_succ]
                refine wpAnyH_done (by kernel_rfl) ?_ _
                have HB8 : Hid (Below W.heap.size W w9) := HB7.out.trans (hHeld.mono HB7.out.size)
                clear hHeld HB9
                go_wp2_with fail
                exact ⟨⟨k + 1, best, by omega, by go_num, rfl, HB8.out, HBE2, HM1⟩, by simp [intOf]; omega⟩
            · obtain rfl : N = k := by omega
              have hfin := BestIs.of (p := ⟨2, 0, next, 128⟩) (by rw [HLN.out]; exact HBE.out) HLG.out (by simp) (fun y => Iff.rfl)
              cases ba with
              | true =>
                have h1 : decide (0 ≤ best) = true := decide_eq_true (hfin.1.1 rfl)
                obtain rfl : xa = best := hfin.2 rfl
                clear hfin
                go_wp2_with fail
                go_ret
                exact ⟨rfl, HBr.out⟩
              | false =>
                have h1 : decide (0 ≤ best) = false := decide_eq_false (fun h => by cases hfin.1.2 h)
                clear hfin
                go_wp2_with fail
                go_ret
                exact ⟨rfl, HBr.out⟩
        · obtain ⟨rfl, rfl⟩ : xa = 0 ∧ ba = false := by
            have := HCA.out
            unfold CostOf at this
            rw [if_neg s4, if_neg s16] at this
            exact this
          have e4 : ((next.size : Int) == 4) = false := by rw [beq_eq_false_iff_ne]; omega
          have e16 : ((next.size : Int) == 16) = false := by rw [beq_eq_false_iff_ne]; omega
          clear s4 s16 HCA
          go_wp2_with fail
          go_loopw [14, 12] (fun i bv wr => ∃ k : Nat, k ≤ N ∧ i = .int .i64 k ∧ bv = .int .i64 (-1) ∧ Hid (Below W.heap.size W wr)) (fun i _ _ => N + 1 - (intOf i).toNat)
          case atStart => exact ⟨0, Nat.zero_le _, rfl, rfl, H65.out⟩
          case round =>
            obtain ⟨k, hk, rfl, rfl, HBr⟩ := hrel
            by_cases hlt : k < N
            · go_wp2_with fail
              refine wp_name fun w7 hw7 => ?_
              have HB7 : Hid (Below W.heap.size W w7) := by
                rw [hw7]
                clear hw7
                show Below _ _ _
                have hs := HBr.out.size
                repeat' (first | with_reducible exact HBr.out | with_reducible refine Below.setCell ?_ (by first | omega | (simp; omega) | simp) _ | with_reducible refine Below.alloc ?_ (by first | omega | (simp; omega) | simp) _)
              clear hw7
              refine wp_region_held_drew (S := fun w' => Below w7.heap.size w7 w') (by kernel_rfl) (below_drewN (Below.refl _ _) 1) (fun hHeld => ?_)
              refine wpAnyH_take (i := 0) (oi := { dst := some 99, op := Op.move (Operand.tmp 13), type := 3, pos := "outright.go:54", after := #[], guard := none }) (v := ?_) rfl (by kernel_rfl) (by kernel_rfl) (by kernel_rfl) (fun _ _ _ h => h) (Or.inl ⟨by rfl, ?_⟩) hHeld ?_
              rotate_left
              · intro w hSw
                clear hSw
                go_simp
                try with_reducible rfl
              try simp only [Act.put, List.setIfInBounds_toArray, List.set_cons_zero, List.set_cons_succ]
              refine wpAnyH_take (i := 1) (oi := { dst := some 100, op := Op.binOp BinOp.gtr 3 (Operand.tmp 99) (Operand.const (Value.int IntKind.i64 0)) 3, type := 4, pos := "outright.go:54", after := #[{ on := 0, ground := Ground.data }], guard := none }) (v := ?_) rfl (by kernel_rfl) (by kernel_rfl) (by kernel_rfl) (fun _ _ _ h => h) (Or.inl ⟨by rfl, ?_⟩) hHeld ?_
              rotate_left
              · intro w hSw
                clear hSw
                go_simp
                try with_reducible rfl
              try simp only [Act.put, List.setIfInBounds_toArray, List.set_cons_zero, List.set_cons_succ]
              refine wpAnyH_take (i := 2) (oi := { dst := some 101, op := Op.move (Operand.tmp 100), type := 4, pos := "outright.go:54", after := #[{ on := 1, ground := Ground.data }], guard := none }) (v := ?_) rfl (by kernel_rfl) (by kernel_rfl) (by kernel_rfl) (fun _ _ _ h => h) (Or.inl ⟨by rfl, ?_⟩) hHeld ?_
              rotate_left
              · intro w hSw
                clear hSw
                go_simp
                try with_reducible rfl
              try simp only [Act.put, List.setIfInBounds_toArray, List.set_cons_zero, List.set_cons_succ]
              refine wpAnyH_take (i := 3) (oi := { dst := some 102, op := Op.move (Operand.tmp 0), type := 22, pos := "outright.go:54", after := #[{ on := 2, ground := Ground.guard }], guard := some (2, true) }) (v := undef) rfl (by kernel_rfl) (by kernel_rfl) (by kernel_rfl) (fun _ _ _ h => h) (Or.inr ⟨by rfl, rfl⟩) hHeld ?_
              try simp only [Act.put, List.setIfInBounds_toArray, List.set_cons_zero, List.set_cons_succ]
              refine wpAnyH_take (i := 4) (oi := { dst := some 103, op := Op.move (Operand.tmp 14), type := 3, pos := "outright.go:54", after := #[{ on := 2, ground := Ground.guard }], guard := some (2, true) }) (v := undef) rfl (by kernel_rfl) (by kernel_rfl) (by kernel_rfl) (fun _ _ _ h => h) (Or.inr ⟨by rfl, rfl⟩) hHeld ?_
              try simp only [Act.put, List.setIfInBounds_toArray, List.set_cons_zero, List.set_cons_succ]
              refine wpAnyH_take (i := 5) (oi := { dst := some 104, op := Op.indexAddr 22 (Operand.tmp 102) (Operand.tmp 103), type := 0, pos := "outright.go:54", after := #[{ on := 3, ground := Ground.data }, { on := 4, ground := Ground.data }, { on := 2, ground := Ground.guard }], guard := some (2, true) }) (v := undef) rfl (by kernel_rfl) (by kernel_rfl) (by kernel_rfl) (fun _ _ _ h => h) (Or.inr ⟨by rfl, rfl⟩) hHeld ?_
              try simp only [Act.put, List.setIfInBounds_toArray, List.set_cons_zero, List.set_cons_succ]
              refine wpAnyH_take (i := 6) (oi := { dst := some 105, op := Op.load 30 (Operand.tmp 104), type := 30, pos := "outright.go:54", after := #[{ on := 5, ground := Ground.data }, { on := 2, ground := Ground.guard }], guard := some (2, true) }) (v := undef) rfl (by kernel_rfl) (by kernel_rfl) (by kernel_rfl) (fun _ _ _ h => h) (Or.inr ⟨by rfl, rfl⟩) hHeld ?_
              try simp only [Act.put, List.setIfInBounds_toArray, List.set_cons_zero, List.set_cons_succ]
              refine wpAnyH_take (i := 7) (oi := { dst := some 106, op := Op.load 30 (Operand.tmp 15), type := 30, pos := "outright.go:54", after := #[{ on := 2, ground := Ground.guard }], guard := some (2, true) }) (v := undef) rfl (by kernel_rfl) (by kernel_rfl) (by kernel_rfl) (fun _ _ _ h => h) (Or.inr ⟨by rfl, rfl⟩) hHeld ?_
              try simp only [Act.put, List.setIfInBounds_toArray, List.set_cons_zero, List.set_cons_succ]
              refine wpAnyH_take (i := 8) (oi := { dst := some 107, op := Op.call { callee := Callee.value (Operand.func 10), args := #[Operand.tmp 105, Operand.tmp 106], argTypes := #[30, 30] }, type := 4, pos := "outright.go:54", after := #[{ on := 6, ground := Ground.data }, { on := 7, ground := Ground.data }, { on := 2, ground := Ground.chain }, { on := 2, ground := Ground.guard }], guard := some (2, true) }) (v := undef) rfl (by kernel_rfl) (by kernel_rfl) (by kernel_rfl) (fun _ _ _ h => h) (Or.inr ⟨by rfl, rfl⟩) hHeld ?_
              try simp only [Act.put, List.setIfInBounds_toArray, List.set_cons_zero, List.set_cons_succ]
              refine wpAnyH_take (i := 9) (oi := { dst := some 108, op := Op.pick (Operand.tmp 101) (Operand.tmp 107) (Operand.const (Value.bool false)), type := 4, pos := "outright.go:54", after := #[{ on := 2, ground := Ground.data }, { on := 8, ground := Ground.data }], guard := none }) (v := ?_) rfl (by kernel_rfl) (by kernel_rfl) (by kernel_rfl) (fun _ _ _ h => h) (Or.inl ⟨by rfl, ?_⟩) hHeld ?_
              rotate_left
              · intro w hSw
                clear hSw
                go_simp
                try with_reducible rfl
              try simp only [Act.put, List.setIfInBounds_toArray, List.set_cons_zero, List.set_cons_succ]
              refine wpAnyH_take (i := 10) (oi := { dst := some 109, op := Op.move (Operand.tmp 108), type := 4, pos := "outright.go:54", after := #[{ on := 9, ground := Ground.data }, { on := 8, ground := Ground.chain }], guard := none }) (v := ?_) rfl (by kernel_rfl) (by kernel_rfl) (by kernel_rfl) (fun _ _ _ h => h) (Or.inl ⟨by rfl, ?_⟩) hHeld ?_
              rotate_left
              · intro w hSw
                clear hSw
                go_simp
                try with_reducible rfl
              try simp only [Act.put, List.setIfInBounds_toArray, List.set_cons_zero, List.set_cons_succ]
              refine wpAnyH_take (i := 11) (oi := { dst := some 110, op := Op.move (Operand.tmp 0), type := 22, pos := "outright.go:54", after := #[{ on := 10, ground := Ground.guard }], guard := some (10, true) }) (v := undef) rfl (by kernel_rfl) (by kernel_rfl) (by kernel_rfl) (fun _ _ _ h => h) (Or.inr ⟨by rfl, rfl⟩) hHeld ?_
              try simp only [Act.put, List.setIfInBounds_toArray, List.set_cons_zero, List.set_cons_succ]
              refine wpAnyH_take (i := 12) (oi := { dst := some 111, op := Op.move (Operand.tmp 14), type := 3, pos := "outright.go:54", after := #[{ on := 10, ground := Ground.guard }], guard := some (10, true) }) (v := undef) rfl (by kernel_rfl) (by kernel_rfl) (by kernel_rfl) (fun _ _ _ h => h) (Or.inr ⟨by rfl, rfl⟩) hHeld ?_
              try simp only [Act.put, List.setIfInBounds_toArray, List.set_cons_zero, List.set_cons_succ]
              refine wpAnyH_take (i := 13) (oi := { dst := some 112, op := Op.indexAddr 22 (Operand.tmp 110) (Operand.tmp 111), type := 0, pos := "outright.go:54", after := #[{ on := 11, ground := Ground.data }, { on := 12, ground := Ground.data }, { on := 10, ground := Ground.guard }], guard := some (10, true) }) (v := undef) rfl (by kernel_rfl) (by kernel_rfl) (by kernel_rfl) (fun _ _ _ h => h) (Or.inr ⟨by rfl, rfl⟩) hHeld ?_
              try simp only [Act.put, List.setIfInBounds_toArray, List.set_cons_zero, List.set_cons_succ]
              refine wpAnyH_take (i := 14) (oi := { dst := some 113, op := Op.fieldAddr 30 (Operand.tmp 112) 0, type := 0, pos := "outright.go:54", after := #[{ on := 13, ground := Ground.data }, { on := 10, ground := Ground.guard }], guard := some (10, true) }) (v := undef) rfl (by kernel_rfl) (by kernel_rfl) (by kernel_rfl) (fun _ _ _ h => h) (Or.inr ⟨by rfl, rfl⟩) hHeld ?_
              try simp only [Act.put, List.setIfInBounds_toArray, List.set_cons_zero, List.set_cons_succ]
              refine wpAnyH_take (i := 15) (oi := { dst := some 114, op := Op.load 3 (Operand.tmp 113), type := 3, pos := "outright.go:54", after := #[{ on := 14, ground := Ground.data }, { on := 10, ground := Ground.guard }], guard := some (10, true) }) (v := undef) rfl (by kernel_rfl) (by kernel_rfl) (by kernel_rfl) (fun _ _ _ h => h) (Or.inr ⟨by rfl, rfl⟩) hHeld ?_
              try simp only [Act.put, List.setIfInBounds_toArray, List.set_cons_zero, List.set_cons_succ]
              refine wpAnyH_take (i := 16) (oi := { dst := some 115, op := Op.move (Operand.tmp 13), type := 3, pos := "outright.go:54", after := #[{ on := 10, ground := Ground.guard }], guard := some (10, true) }) (v := undef) rfl (by kernel_rfl) (by kernel_rfl) (by kernel_rfl) (fun _ _ _ h => h) (Or.inr ⟨by rfl, rfl⟩) hHeld ?_
              try simp only [Act.put, List.setIfInBounds_toArray, List.set_cons_zero, List.set_cons_succ]
              refine wpAnyH_take (i := 17) (oi := { dst := some 116, op := Op.binOp BinOp.eql 3 (Operand.tmp 114) (Operand.tmp 115) 3, type := 4, pos := "outright.go:54", after := #[{ on := 15, ground := Ground.data }, { on := 16, ground := Ground.data }, { on := 10, ground := Ground.guard }], guard := some (10, true) }) (v := undef) rfl (by kernel_rfl) (by kernel_rfl) (by kernel_rfl) (fun _ _ _ h => h) (Or.inr ⟨by rfl, rfl⟩) hHeld ?_
              try simp only [Act.put, List.setIfInBounds_toArray, List.set_cons_zero, List.set_cons_succ]
              refine wpAnyH_take (i := 18) (oi := { dst := some 117, op := Op.pick (Operand.tmp 109) (Operand.tmp 116) (Operand.const (Value.bool false)), type := 4, pos := "outright.go:54", after := #[{ on := 10, ground := Ground.data }, { on := 17, ground := Ground.data }], guard := none }) (v := ?_) rfl (by kernel_rfl) (by kernel_rfl) (by kernel_rfl) (fun _ _ _ h => h) (Or.inl ⟨by rfl, ?_⟩) hHeld ?_
              rotate_left
              · intro w hSw
                clear hSw
                go_simp
                try with_reducible rfl
              try simp only [Act.put, List.setIfInBounds_toArray, List.set_cons_zero, List.set_cons_succ]
              refine wpAnyH_done (by kernel_rfl) ?_ _
              clear hHeld
              go_wp2_with fail
              exact ⟨⟨k + 1, by omega, by go_num, rfl, below_drewN HB7.out 1⟩, by simp [intOf]; omega⟩
            · obtain rfl : N = k := by omega
              go_wp2_with fail
              go_ret
              exact ⟨rfl, HBr.out⟩
end Go.Proofs.Ythnjepehiddogaa
