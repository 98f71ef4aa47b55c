/-
  Timers: the reference's Arm, where it arms a new key. Conditions: sizes.
-/
import Derived.Test.YtcgegaahdbnacaaWhQ
set_option linter.unusedVariables false
set_option linter.unusedSimpArgs false
namespace Go.Proofs.Ytcgegaahdbnacaa
open Go.RowKit Go.MapKept Go.Shelf Go.Lib
open Go.Maps (Keyed)

open Classical in
set_option maxRecDepth 100000 in
set_option maxHeartbeats 8000000 in
theorem rarm_ok2 (l : List Tm) (base : Nat) (v : Value) (k : WK) (n : Nat) (w : World) (h : Sees w base v l) (hM : l.length ≤ 1024) (ho : Ord l) (hk : k.Ok) (hm : KMay k) (hn : n ≤ 1099511627776) (hin : (∀ p ∈ l, p.k ≠ k) ∧ l.length < 1024) :
    Calls Try.prog 21 #[v, k.v, .int .u64 n] w (RArmPost w l k n) := by
  obtain ⟨i0, hi0, hz0, hz1, hz2⟩ := info_parts infoFired
  have HH0 : Hid (Sees _ base v l) := h.below (Below.alloc (Below.refl w.heap.size w) (Nat.le_refl _) (.cells #[.int .i64 k.kind, .string k.peer, .int .i64 k.fam] 30))
  obtain ⟨A, cap, rfl, hc1, hc2⟩ := h.form
  have HA0 := Lib.hid (Below.alloc (Below.refl w.heap.size w) (Nat.le_refl _) (.cells #[.int .i64 k.kind, .string k.peer, .int .i64 k.fam] 30))
  have HK0 := Lib.hid (CellsAt.new w #[.int .i64 k.kind, .string k.peer, .int .i64 k.fam] 30)
  have HM := Lib.hid (fun w => rkmay_any k hk w)
  rw [decide_eq_true hm] at HM
  have HC := Lib.hid (fun w (h : Sees w base (.slice A l.length cap) l) => rcan_any l base _ k w h (by omega))
  have HRP : Hid (RArmPost w l k n = RArmPost w l k n) := rfl
  generalize hRR : canT l k = RR at HC
  have hRo : Ord RR := hRR ▸ ho.sub List.filter_sublist
  have hRk : ∀ y ∈ RR, y.k ≠ k := fun y hy => by
    rw [← hRR] at hy
    simpa using (List.mem_filter.1 hy).2
  have hRl : RR.length ≤ l.length := hRR ▸ canT_le l k
  have hl24 := hin.2
  have hcn := canT_no hin.1
  have hRR2 : RR = l := hRR.symm.trans hcn
  subst hRR2
  have hge : decide ((1024 : Int) ≤ RR.length) = false := by simp; omega
  clear hin hcn
  have HRR := Lib.hid hRR
  have HRO := Lib.hid hRo
  have HRK := Lib.hid hRk
  clear h hk hm hRR hRo hRk ho HRP
  unfold WK.v at HM HC ⊢
  go_enter Try.func21, Try.ntmps21
  go_wp2_with fail
  refine (HM.out _).mono ?_
  rintro e w1 ⟨rfl, hb⟩
  have HH1 := Lib.hid (HH0.out.below hb)
  have HK1 := Lib.hid (HK0.out.below hb HK0.out.lt)
  have HA1 := Lib.hid (HA0.out.trans (hb.mono HA0.out.size))
  clear hb HH0 HK0 HA0 HM
  obtain ⟨k0, k1, k2⟩ := HK1.out.c3
  go_wp2_with fail
  refine (HC.out _ HH1.out).mono ?_
  rintro e w2 ⟨v', rfl, hf, hb⟩
  obtain ⟨A2, c2, rfl⟩ := OwnM.form hf
  have HK2 := Lib.hid (HK1.out.below hb HK1.out.lt)
  have HA2 := Lib.hid ((HA1.out.trans (hb.mono HA1.out.size)).alloc (HA1.out.trans (hb.mono HA1.out.size)).size (.cells #[.int .u64 (n : Nat), .int .i64 k.kind, .string k.peer, .int .i64 k.fam] 32))
  have HR2 : Hid (FiredAt _ w1.heap.size _ RR) := OwnM.alloc hf (.cells #[.int .u64 (n : Nat), .int .i64 k.kind, .string k.peer, .int .i64 k.fam] 32)
  have HX2 := Lib.hid (CellsAt.new w2 #[.int .u64 (n : Nat), .int .i64 k.kind, .string k.peer, .int .i64 k.fam] 32)
  have hz12 : w1.heap.size ≤ w2.heap.size := hb.size
  have hz01 : w.heap.size ≤ w1.heap.size := HA1.out.size
  have hgw := Lib.hid (fun g (hg : (Value.slice A2 RR.length c2).ownBlock = some g) => (hf.lt g hg).2)
  clear hb hf k0 k1 k2 HH1 HK1 HA1
  obtain ⟨k0, k1, k2⟩ := HK2.out.c3
  go_wp2_with fail
  clear k0 k1 k2 HK2
  go_loopw [10] (fun x wr => ∃ j : Nat, j ≤ RR.length ∧ x = .int .i64 j ∧ Hid (∀ i y, j ≤ i → RR[i]? = some y → tlt ⟨n, k⟩ y = true) ∧ Hid (FiredAt wr w1.heap.size (.slice A2 RR.length c2) RR) ∧ Hid (CellsAt wr w2.heap.size #[.int .u64 (n : Nat), .int .i64 k.kind, .string k.peer, .int .i64 k.fam] 32) ∧ Hid (Below w.heap.size w wr)) (fun x _ => (intOf x).toNat)
  case atStart => exact ⟨RR.length, Nat.le_refl _, rfl, (fun i y h hy => absurd (List.getElem?_eq_some_iff.1 hy).1 (by omega)), HR2.out, HX2.out, HA2.out⟩
  case round =>
    obtain ⟨j, hj, rfl, HJ, HR, HX, HA⟩ := hrel
    clear HR2 HX2 HA2
    by_cases hgo : ∃ i p, j = i + 1 ∧ RR[i]? = some p ∧ tlt ⟨n, k⟩ p = true
    · obtain ⟨i, p, hji, hop, ht⟩ := hgo
      have HT := Lib.hid ht
      have HJ2 : Hid (∀ i' y, i ≤ i' → RR[i']? = some y → tlt ⟨n, k⟩ y = true) := fun i' y h1 h2 => by
        by_cases e : i' = i
        · subst e
          rw [hop] at h2
          injection h2 with h2
          subst h2
          exact HT.out
        · exact HJ.out i' y (by omega) h2
      obtain ⟨g2, c2', e2, _⟩ := FiredAt.at_ HR.out hop
      simp only [Value.slice.injEq] at e2
      obtain ⟨rfl, _, rfl⟩ := e2
      have hi1 : (j : Int) - 1 = (i : Nat) := by omega
      have hpos : 0 < j := by omega
      have hil : i < RR.length := by omega
      have hwr : IntKind.i64.wrap ((j : Int) - 1) = (i : Int) := by rw [hi1]; all_goals (simp [IntKind.wrap, IntKind.bits, IntKind.signed] <;> omega)
      have hst : FiredAt wr.drew w1.heap.size (.slice (some ⟨g2, 0, none⟩) RR.length c2) RR ∧ CellsAt wr.drew w2.heap.size #[.int .u64 (n : Nat), .int .i64 k.kind, .string k.peer, .int .i64 k.fam] 32 ∧ Below w.heap.size w wr.drew := ⟨HR.out, HX.out, below_drewN HA.out 1⟩
      have HIL := Lib.hid hji
      clear hi1 ht hji HJ HR HX HA
      go_wp2_with fail
      refine wp_region_held_drew (S := fun w' => FiredAt w' w1.heap.size (.slice (some ⟨g2, 0, none⟩) RR.length c2) RR ∧ CellsAt w' w2.heap.size #[.int .u64 (n : Nat), .int .i64 k.kind, .string k.peer, .int .i64 k.fam] 32 ∧ Below w.heap.size w w') (by kernel_rfl) (hst) (fun hHeld => ?_)
      refine wpAnyH_take (i := 0) (oi := { dst := some 39, op := Op.move (Operand.tmp 10), type := 3, pos := "ref.go:74", after := #[], guard := none }) (v := ?_) rfl (by kernel_rfl) (by kernel_rfl) (by kernel_rfl) (fun _ _ _ h => h) (Or.inl ⟨by rfl, ?_⟩) hHeld ?_
      rotate_left
      · intro w hSw
        clear hSw
        go_simp
        try with_reducible rfl
      try simp only [Act.put, List.setIfInBounds_toArray, List.set_cons_zero, List.set_cons_succ]
      refine wpAnyH_take (i := 1) (oi := { dst := some 40, op := Op.binOp BinOp.gtr 3 (Operand.tmp 39) (Operand.const (Value.int IntKind.i64 0)) 3, type := 4, pos := "ref.go:74", after := #[{ on := 0, ground := Ground.data }], guard := none }) (v := ?_) rfl (by kernel_rfl) (by kernel_rfl) (by kernel_rfl) (fun _ _ _ h => h) (Or.inl ⟨by rfl, ?_⟩) hHeld ?_
      rotate_left
      · intro w hSw
        clear hSw
        go_simp
        try with_reducible rfl
      try simp only [Act.put, List.setIfInBounds_toArray, List.set_cons_zero, List.set_cons_succ]
      refine wpAnyH_take (i := 2) (oi := { dst := some 41, op := Op.move (Operand.tmp 40), type := 4, pos := "ref.go:74", after := #[{ on := 1, ground := Ground.data }], guard := none }) (v := ?_) rfl (by kernel_rfl) (by kernel_rfl) (by kernel_rfl) (fun _ _ _ h => h) (Or.inl ⟨by rfl, ?_⟩) hHeld ?_
      rotate_left
      · intro w hSw
        clear hSw
        go_simp
        try with_reducible rfl
      try simp only [Act.put, List.setIfInBounds_toArray, List.set_cons_zero, List.set_cons_succ]
      refine wpAnyH_take (i := 3) (oi := { dst := some 42, op := Op.load 32 (Operand.tmp 9), type := 32, pos := "ref.go:74", after := #[{ on := 2, ground := Ground.guard }], guard := some (2, true) }) (v := ?_) rfl (by kernel_rfl) (by kernel_rfl) (by kernel_rfl) (fun _ _ _ h => h) (Or.inl ⟨by rfl, ?_⟩) hHeld ?_
      rotate_left
      · intro w hSw
        obtain ⟨q1, q2, q3⟩ := hSw
        obtain ⟨x0, x1, x2, x3⟩ := q2.c4
        obtain ⟨p0, p1, p2, p3⟩ := FiredAt.cs q1 hop
        go_simp
        try with_reducible rfl
      try simp only [Act.put, List.setIfInBounds_toArray, List.set_cons_zero, List.set_cons_succ]
      refine wpAnyH_take (i := 4) (oi := { dst := some 43, op := Op.move (Operand.tmp 8), type := 25, pos := "ref.go:74", after := #[{ on := 2, ground := Ground.guard }], guard := some (2, true) }) (v := ?_) rfl (by kernel_rfl) (by kernel_rfl) (by kernel_rfl) (fun _ _ _ h => h) (Or.inl ⟨by rfl, ?_⟩) hHeld ?_
      rotate_left
      · intro w hSw
        clear hSw
        go_simp
        try with_reducible rfl
      try simp only [Act.put, List.setIfInBounds_toArray, List.set_cons_zero, List.set_cons_succ]
      refine wpAnyH_take (i := 5) (oi := { dst := some 44, op := Op.move (Operand.tmp 10), type := 3, pos := "ref.go:74", after := #[{ on := 2, ground := Ground.guard }], guard := some (2, true) }) (v := ?_) rfl (by kernel_rfl) (by kernel_rfl) (by kernel_rfl) (fun _ _ _ h => h) (Or.inl ⟨by rfl, ?_⟩) hHeld ?_
      rotate_left
      · intro w hSw
        clear hSw
        go_simp
        try with_reducible rfl
      try simp only [Act.put, List.setIfInBounds_toArray, List.set_cons_zero, List.set_cons_succ]
      refine wpAnyH_take (i := 6) (oi := { dst := some 45, op := Op.binOp BinOp.sub 3 (Operand.tmp 44) (Operand.const (Value.int IntKind.i64 1)) 3, type := 3, pos := "ref.go:74", after := #[{ on := 5, ground := Ground.data }, { on := 2, ground := Ground.guard }], guard := some (2, true) }) (v := ?_) rfl (by kernel_rfl) (by kernel_rfl) (by kernel_rfl) (fun _ _ _ h => h) (Or.inl ⟨by rfl, ?_⟩) hHeld ?_
      rotate_left
      · intro w hSw
        clear hSw
        go_simp
        try with_reducible rfl
      try simp only [Act.put, List.setIfInBounds_toArray, List.set_cons_zero, List.set_cons_succ]
      refine wpAnyH_take (i := 7) (oi := { dst := some 46, op := Op.indexAddr 25 (Operand.tmp 43) (Operand.tmp 45), type := 0, pos := "ref.go:74", after := #[{ on := 4, ground := Ground.data }, { on := 6, ground := Ground.data }, { on := 2, ground := Ground.guard }], guard := some (2, true) }) (v := ?_) rfl (by kernel_rfl) (by kernel_rfl) (by kernel_rfl) (fun _ _ _ h => h) (Or.inl ⟨by rfl, ?_⟩) hHeld ?_
      rotate_left
      · intro w hSw
        clear hSw
        go_simp
        try with_reducible rfl
      try simp only [Act.put, List.setIfInBounds_toArray, List.set_cons_zero, List.set_cons_succ]
      refine wpAnyH_take (i := 8) (oi := { dst := some 47, op := Op.load 32 (Operand.tmp 46), type := 32, pos := "ref.go:74", after := #[{ on := 7, ground := Ground.data }, { on := 2, ground := Ground.guard }], guard := some (2, true) }) (v := ?_) rfl (by kernel_rfl) (by kernel_rfl) (by kernel_rfl) (fun _ _ _ h => h) (Or.inl ⟨by rfl, ?_⟩) hHeld ?_
      rotate_left
      · intro w hSw
        obtain ⟨q1, q2, q3⟩ := hSw
        obtain ⟨x0, x1, x2, x3⟩ := q2.c4
        obtain ⟨p0, p1, p2, p3⟩ := FiredAt.cs q1 hop
        go_simp
        try with_reducible rfl
      try simp only [Act.put, List.setIfInBounds_toArray, List.set_cons_zero, List.set_cons_succ]
      refine wpAnyH_ready (rs := [9]) (by kernel_rfl) (by simp) ?_
      refine AllReadyH.cons (o := { dst := some 48, op := Op.call { callee := Callee.value (Operand.func 33), args := #[Operand.tmp 42, Operand.tmp 47], argTypes := #[32, 32] }, type := 4, pos := "ref.go:74", after := #[{ on := 3, ground := Ground.data }, { on := 8, ground := Ground.data }, { on := 2, ground := Ground.chain }, { on := 2, ground := Ground.guard }], guard := some (2, true) }) rfl (fun K hK => ?_) AllReadyH.nil
      go_simp
      refine (rahead_any ⟨n, k⟩ p _).mono ?_
      rintro e w9 ⟨rfl, hb⟩
      rw [HT.out]
      go_wp2_with fail
      refine hK.out _ _ (And.intro (FiredAt.below hHeld.1 hb) (And.intro (hHeld.2.1.below hb hHeld.2.1.lt) (hHeld.2.2.trans (hb.mono hHeld.2.2.size)))) (fun hHeld => ?_)
      clear hK K
      try simp only [Act.put, List.setIfInBounds_toArray, List.set_cons_zero, List.set_cons_succ]
      refine wpAnyH_take (i := 10) (oi := { dst := some 49, op := Op.pick (Operand.tmp 41) (Operand.tmp 48) (Operand.const (Value.bool false)), type := 4, pos := "ref.go:74", after := #[{ on := 2, ground := Ground.data }, { on := 9, ground := Ground.data }], guard := none }) (v := ?_) rfl (by kernel_rfl) (by kernel_rfl) (by kernel_rfl) (fun _ _ _ h => h) (Or.inl ⟨by rfl, ?_⟩) hHeld ?_
      rotate_left
      · intro w hSw
        clear hSw
        go_simp
        try with_reducible rfl
      try simp only [Act.put, List.setIfInBounds_toArray, List.set_cons_zero, List.set_cons_succ]
      refine wpAnyH_done (by kernel_rfl) ?_ _
      clear hwr
      go_wp2_with fail
      exact ⟨⟨i, by omega, by have := HIL.out; subst this; go_num, HJ2, hHeld.1, hHeld.2.1, hHeld.2.2⟩, by have := HIL.out; simp [intOf]; omega⟩
    · have HST : Hid (j = 0 ∨ (0 < j ∧ ∃ y, RR[j - 1]? = some y ∧ tlt ⟨n, k⟩ y = false)) := by
        by_cases e : j = 0
        · exact Or.inl e
        · obtain ⟨y, hy⟩ : ∃ y, RR[j - 1]? = some y := ⟨RR[j - 1], List.getElem?_eq_getElem (by omega)⟩
          refine Or.inr ⟨by omega, y, hy, ?_⟩
          cases ht : tlt ⟨n, k⟩ y with
          | false => rfl
          | true => exact absurd ⟨j - 1, y, by omega, hy, ht⟩ hgo
      have HRES : Hid (Ord (RR.take j ++ ⟨n, k⟩ :: RR.drop j)) := HRO.out.ins hj HRK.out (fun i y h1 h2 => HJ.out i y h1 h2) (HST.out.imp id And.right)
      clear hgo HJ
      have hjR2 : j ≤ 1024 := by omega
      rcases HST.out with hj0 | ⟨hjp, p, hop, ht⟩
      · have hj00 : j ≤ 0 := by omega
        clear HST hj0
        go_wp2_with fail
        refine wp_region_held_drew (S := fun w' => ∃ nd, w' = wr.drewN nd) (by kernel_rfl) (⟨1, rfl⟩) (fun hHeld => ?_)
        refine wpAnyH_take (i := 0) (oi := { dst := some 39, op := Op.move (Operand.tmp 10), type := 3, pos := "ref.go:74", after := #[], guard := none }) (v := ?_) rfl (by kernel_rfl) (by kernel_rfl) (by kernel_rfl) (fun _ _ _ h => h) (Or.inl ⟨by rfl, ?_⟩) hHeld ?_
        rotate_left
        · intro w hSw
          clear hSw
          go_simp
          try with_reducible rfl
        try simp only [Act.put, List.setIfInBounds_toArray, List.set_cons_zero, List.set_cons_succ]
        refine wpAnyH_take (i := 1) (oi := { dst := some 40, op := Op.binOp BinOp.gtr 3 (Operand.tmp 39) (Operand.const (Value.int IntKind.i64 0)) 3, type := 4, pos := "ref.go:74", after := #[{ on := 0, ground := Ground.data }], guard := none }) (v := .bool false) rfl (by kernel_rfl) (by kernel_rfl) (by kernel_rfl) (fun _ _ _ h => h) (Or.inl ⟨by rfl, ?_⟩) hHeld ?_
        · intro w hSw
          clear hSw
          go_simp
          first | done | (simp; omega) | omega
        try simp only [Act.put, List.setIfInBounds_toArray, List.set_cons_zero, List.set_cons_succ]
        refine wpAnyH_take (i := 2) (oi := { dst := some 41, op := Op.move (Operand.tmp 40), type := 4, pos := "ref.go:74", after := #[{ on := 1, ground := Ground.data }], guard := none }) (v := ?_) rfl (by kernel_rfl) (by kernel_rfl) (by kernel_rfl) (fun _ _ _ h => h) (Or.inl ⟨by rfl, ?_⟩) hHeld ?_
        rotate_left
        · intro w hSw
          clear hSw
          go_simp
          try with_reducible rfl
        try simp only [Act.put, List.setIfInBounds_toArray, List.set_cons_zero, List.set_cons_succ]
        refine wpAnyH_take (i := 3) (oi := { dst := some 42, op := Op.load 32 (Operand.tmp 9), type := 32, pos := "ref.go:74", after := #[{ on := 2, ground := Ground.guard }], guard := some (2, true) }) (v := undef) rfl (by kernel_rfl) (by kernel_rfl) (by kernel_rfl) (fun _ _ _ h => h) (Or.inr ⟨by rfl, rfl⟩) hHeld ?_
        try simp only [Act.put, List.setIfInBounds_toArray, List.set_cons_zero, List.set_cons_succ]
        refine wpAnyH_take (i := 4) (oi := { dst := some 43, op := Op.move (Operand.tmp 8), type := 25, pos := "ref.go:74", after := #[{ on := 2, ground := Ground.guard }], guard := some (2, true) }) (v := undef) rfl (by kernel_rfl) (by kernel_rfl) (by kernel_rfl) (fun _ _ _ h => h) (Or.inr ⟨by rfl, rfl⟩) hHeld ?_
        try simp only [Act.put, List.setIfInBounds_toArray, List.set_cons_zero, List.set_cons_succ]
        refine wpAnyH_take (i := 5) (oi := { dst := some 44, op := Op.move (Operand.tmp 10), type := 3, pos := "ref.go:74", after := #[{ on := 2, ground := Ground.guard }], guard := some (2, true) }) (v := undef) rfl (by kernel_rfl) (by kernel_rfl) (by kernel_rfl) (fun _ _ _ h => h) (Or.inr ⟨by rfl, rfl⟩) hHeld ?_
        try simp only [Act.put, List.setIfInBounds_toArray, List.set_cons_zero, List.set_cons_succ]
        refine wpAnyH_take (i := 6) (oi := { dst := some 45, op := Op.binOp BinOp.sub 3 (Operand.tmp 44) (Operand.const (Value.int IntKind.i64 1)) 3, type := 3, pos := "ref.go:74", after := #[{ on := 5, ground := Ground.data }, { on := 2, ground := Ground.guard }], guard := some (2, true) }) (v := undef) rfl (by kernel_rfl) (by kernel_rfl) (by kernel_rfl) (fun _ _ _ h => h) (Or.inr ⟨by rfl, rfl⟩) hHeld ?_
        try simp only [Act.put, List.setIfInBounds_toArray, List.set_cons_zero, List.set_cons_succ]
        refine wpAnyH_take (i := 7) (oi := { dst := some 46, op := Op.indexAddr 25 (Operand.tmp 43) (Operand.tmp 45), type := 0, pos := "ref.go:74", after := #[{ on := 4, ground := Ground.data }, { on := 6, ground := Ground.data }, { on := 2, ground := Ground.guard }], guard := some (2, true) }) (v := undef) rfl (by kernel_rfl) (by kernel_rfl) (by kernel_rfl) (fun _ _ _ h => h) (Or.inr ⟨by rfl, rfl⟩) hHeld ?_
        try simp only [Act.put, List.setIfInBounds_toArray, List.set_cons_zero, List.set_cons_succ]
        refine wpAnyH_take (i := 8) (oi := { dst := some 47, op := Op.load 32 (Operand.tmp 46), type := 32, pos := "ref.go:74", after := #[{ on := 7, ground := Ground.data }, { on := 2, ground := Ground.guard }], guard := some (2, true) }) (v := undef) rfl (by kernel_rfl) (by kernel_rfl) (by kernel_rfl) (fun _ _ _ h => h) (Or.inr ⟨by rfl, rfl⟩) hHeld ?_
        try simp only [Act.put, List.setIfInBounds_toArray, List.set_cons_zero, List.set_cons_succ]
        refine wpAnyH_take (i := 9) (oi := { dst := some 48, op := Op.call { callee := Callee.value (Operand.func 33), args := #[Operand.tmp 42, Operand.tmp 47], argTypes := #[32, 32] }, type := 4, pos := "ref.go:74", after := #[{ on := 3, ground := Ground.data }, { on := 8, ground := Ground.data }, { on := 2, ground := Ground.chain }, { on := 2, ground := Ground.guard }], guard := some (2, true) }) (v := undef) rfl (by kernel_rfl) (by kernel_rfl) (by kernel_rfl) (fun _ _ _ h => h) (Or.inr ⟨by rfl, rfl⟩) hHeld ?_
        try simp only [Act.put, List.setIfInBounds_toArray, List.set_cons_zero, List.set_cons_succ]
        refine wpAnyH_take (i := 10) (oi := { dst := some 49, op := Op.pick (Operand.tmp 41) (Operand.tmp 48) (Operand.const (Value.bool false)), type := 4, pos := "ref.go:74", after := #[{ on := 2, ground := Ground.data }, { on := 9, ground := Ground.data }], guard := none }) (v := ?_) rfl (by kernel_rfl) (by kernel_rfl) (by kernel_rfl) (fun _ _ _ h => h) (Or.inl ⟨by rfl, ?_⟩) hHeld ?_
        rotate_left
        · intro w hSw
          clear hSw
          go_simp
          try with_reducible rfl
        try simp only [Act.put, List.setIfInBounds_toArray, List.set_cons_zero, List.set_cons_succ]
        refine wpAnyH_done (by kernel_rfl) ?_ _
        have HR9 : Hid (FiredAt wr.drew w1.heap.size (.slice A2 RR.length c2) RR) := HR.out
        have HX9 : Hid (CellsAt wr.drew w2.heap.size #[.int .u64 (n : Nat), .int .i64 k.kind, .string k.peer, .int .i64 k.fam] 32) := HX.out
        have HA9 : Hid (Below w.heap.size w wr.drew) := below_drewN HA.out 1
        clear HR HX HA hj00
        generalize wr.drew = W4 at HR9 HX9 HA9 ⊢
        have z04 : w.heap.size ≤ W4.heap.size := HA9.out.size
        have hlj : (RR.take j).length = j := by rw [List.length_take]; omega
        have hld : (RR.drop j).length = RR.length - j := by rw [List.length_drop]
        have HS9 := Lib.hid (Sees.of_own HR9.out)
        have hgw4 := Lib.hid (fun g (hg : (Value.slice A2 RR.length c2).ownBlock = some g) => (HR9.out.lt g hg).2)
        have HSRC1 : Hid (Src Try.prog W4 25 4 (.slice A2 j c2) j (flatT (RR.take j))) := by
          have h := Src.sees (HS9.out.take hj)
          rw [hlj] at h
          exact h
        obtain ⟨A', c', eA, hcap1, hcap2, hcap3, hcap4, _⟩ := HS9.out.ex
        simp only [Value.slice.injEq] at eA
        obtain ⟨rfl, _, rfl⟩ := eA
        have hoff := Lib.hid HR9.out
        have HD := Lib.hid (show RR.length - j ≤ 1024 by omega)
        have hld2 := Lib.hid hld
        clear hlj hld HR9
        unfold maxLen at hcap2

        cases A2 with
        | none =>
          have hc0 := hcap3 rfl
          subst hc0
          have hRnil : RR = [] := List.eq_nil_of_length_eq_zero (by omega)
          subst hRnil
          obtain rfl : j = 0 := by simpa using hj
          clear hcap3 hcap4 hld2 HD hoff
          have HSRC1 : Hid (Src Try.prog W4 25 4 (.slice none 0 0) 0 (flatT [])) := by
            show Src _ _ _ _ _ _ _
            exact Src.nil Try.underlying25
          obtain ⟨x0, x1, x2, x3⟩ := HX9.out.c4
          go_wp2_with (at_builtin; refine wpList_append_m rfl (.tmp 52) (.tmp 55) 25 25 rfl W4.heap.size 32 i0 _ 4 40 Try.underlying25 hi0 hz0 hz1 hz2 rfl ?a2noa1 _ 0 [] rfl (OwnM.nil _ _ _ _) _ 0 (flatT ([] : List Tm)) rfl ?a2noa2 ?a2noa3 ?a2noa4 ?a2noa5 ?a2noa6)
          case a2noa1 => omega
          case a2noa2 => exact HSRC1.out
          case a2noa3 => (unfold maxLen; omega)
          case a2noa4 => omega
          case a2noa5 => exact Nat.le_refl _
          intro v5 w5 hown hgr hat
          try simp only [Nat.zero_add, List.nil_append] at hown
          obtain ⟨A5, c5, rfl⟩ := hown.form
          have hb5 : Below W4.heap.size W4 w5 := below_of_grown hgr
          have HO5 := Lib.hid hown
          have HX5 := Lib.hid (HX9.out.below hb5 HX9.out.lt)
          have HR5 : Hid (Sees w5 w1.heap.size _ []) := HS9.out.below hb5
          have HA5 := Lib.hid (HA9.out.trans (hb5.mono HA9.out.size))
          have z45 : W4.heap.size ≤ w5.heap.size := hb5.size
          clear hown hgr hat hb5 x0 x1 x2 x3
          obtain ⟨x0, x1, x2, x3⟩ := HX5.out.c4
          go_wp2_with (at_builtin; refine wpList_append_m rfl (.tmp 57) (.tmp 59) 25 25 rfl W4.heap.size 32 i0 _ 4 40 Try.underlying25 hi0 hz0 hz1 hz2 rfl ?a2nob1 _ 0 (flatT ([] : List Tm)) rfl (HO5.out.alloc _) _ 1 (flatT [(⟨n, k⟩ : Tm)]) rfl ?a2nob2 ?a2nob3 ?a2nob4 ?a2nob5 ?a2nob6)
          case a2nob1 => omega
          case a2nob2 => exact Src.new (w := w5) _ _ Try.underlying25 rfl (fun u hu => flatT_one [(⟨n, k⟩ : Tm)] u hu)
          case a2nob3 => (unfold maxLen; omega)
          case a2nob4 => omega
          case a2nob5 => (simp; omega)
          intro v6 w6 hown hgr hat
          obtain ⟨A6, c6, rfl⟩ := hown.form
          have hnb5 := fun g (hg : (Value.slice A5 0 c5).ownBlock = some g) => (HO5.out.lt g hg).1
          have hG6 : GrownX (fun i => W4.heap.size ≤ i) w5 w6 := (GrownX.of_below ((Below.refl w5.heap.size w5).alloc (Nat.le_refl _) (.cells #[.int .u64 (n : Nat), .int .i64 k.kind, .string k.peer, .int .i64 k.fam] 32))).trans ⟨hgr.os, hgr.tape, hgr.output, hgr.size, fun i hi hx => hgr.block i hi (fun e => hx (hnb5 i e.symm))⟩
          have HO6 := Lib.hid hown
          have HS6 : Hid (Sees w6 w1.heap.size _ []) := HR5.out.keep (fun g h1 h2 h3 => hG6.block g h2 (fun e => by have := hgw4.out g h3; omega)) hG6.size
          have HA6 : Hid (Below w.heap.size w w6) := hG6.below HA5.out (fun i hi => by omega) HA5.out.size
          have z46 : W4.heap.size ≤ w6.heap.size := by have := hG6.size; omega
          clear hown hgr hat hnb5 hG6 x0 x1 x2 x3 HO5 HX5 HR5 HA5
          have HSRC3 : Hid (Src Try.prog w6 25 4 (.slice none 0 0) 0 (flatT [])) := by
            show Src _ _ _ _ _ _ _
            exact Src.nil Try.underlying25
          go_wp2_with (at_builtin; refine wpList_append_m rfl (.tmp 61) (.tmp 64) 25 25 rfl W4.heap.size 32 i0 _ 4 40 Try.underlying25 hi0 hz0 hz1 hz2 rfl ?a2noc1 _ 1 (flatT ([] : List Tm) ++ flatT [(⟨n, k⟩ : Tm)]) rfl HO6.out _ 0 (flatT ([] : List Tm)) rfl ?a2noc2 ?a2noc3 ?a2noc4 ?a2noc5 ?a2noc6)
          case a2noc1 => omega
          case a2noc2 => exact HSRC3.out
          case a2noc3 => (unfold maxLen; omega)
          case a2noc4 => omega
          case a2noc5 => exact z46
          intro v7 w7 hown hgr hat
          have HO7 : Hid (FiredAt w7 W4.heap.size v7 (([] : List Tm) ++ (⟨n, k⟩ : Tm) :: ([] : List Tm))) := by
            show OwnM _ _ _ _ _ _ _
            have e1 : (([] : List Tm) ++ (⟨n, k⟩ : Tm) :: ([] : List Tm)).length = 1 + 0 := by simp <;> omega
            have e2 : flatT (([] : List Tm) ++ (⟨n, k⟩ : Tm) :: ([] : List Tm)) = flatT ([] : List Tm) ++ flatT [(⟨n, k⟩ : Tm)] ++ flatT ([] : List Tm) := by
              rw [← flatT_append, ← flatT_append, List.append_assoc]
              rfl
            rw [e1, e2]
            first | exact hown | (rw [List.append_assoc]; exact hown) | simpa using hown
          have hnb6 := fun g (hg : (Value.slice A6 1 c6).ownBlock = some g) => (HO6.out.lt g hg).1
          have HA7 : Hid (Below w.heap.size w w7) := HA6.out.grown hgr HA6.out.size (fun g hg => by have := hnb6 g hg; omega)
          clear hown hgr hat hnb6 HO6 HS6 HA6
          obtain ⟨A7, c7, e7⟩ := HO7.out.form
          subst e7
          go_wp2_with fail
          go_ret2
          refine ⟨_, _, rfl, by simpa using HRES.out, ?_, HO7.out.lower (by omega), HA7.out⟩
          rw [HRR.out]
          try exact List.Perm.refl _
        | some a =>
          obtain ⟨g, off, sp⟩ := a
          have hsp := hcap4 _ rfl
          simp only at hsp
          subst hsp
          clear hcap3 hcap4
          have hjc2 : j ≤ c2 := by omega
          by_cases hcl : j = c2
          · subst hcl
            obtain ⟨x0, x1, x2, x3⟩ := HX9.out.c4
            go_wp2_with (at_builtin; refine wpList_append_m rfl (.tmp 52) (.tmp 55) 25 25 rfl W4.heap.size 32 i0 _ 4 40 Try.underlying25 hi0 hz0 hz1 hz2 rfl ?a2eqa1 _ 0 [] rfl (OwnM.nil _ _ _ _) _ j (flatT (RR.take j)) rfl ?a2eqa2 ?a2eqa3 ?a2eqa4 ?a2eqa5 ?a2eqa6)
            case a2eqa1 => omega
            case a2eqa2 => exact HSRC1.out
            case a2eqa3 => (unfold maxLen; omega)
            case a2eqa4 => omega
            case a2eqa5 => exact Nat.le_refl _
            intro v5 w5 hown hgr hat
            try simp only [Nat.zero_add, List.nil_append] at hown
            obtain ⟨A5, c5, rfl⟩ := hown.form
            have hb5 : Below W4.heap.size W4 w5 := below_of_grown hgr
            have HO5 := Lib.hid hown
            have HX5 := Lib.hid (HX9.out.below hb5 HX9.out.lt)
            have HR5 : Hid (Sees w5 w1.heap.size _ RR) := HS9.out.below hb5
            have HA5 := Lib.hid (HA9.out.trans (hb5.mono HA9.out.size))
            have z45 : W4.heap.size ≤ w5.heap.size := hb5.size
            clear hown hgr hat hb5 x0 x1 x2 x3
            obtain ⟨x0, x1, x2, x3⟩ := HX5.out.c4
            go_wp2_with (at_builtin; refine wpList_append_m rfl (.tmp 57) (.tmp 59) 25 25 rfl W4.heap.size 32 i0 _ 4 40 Try.underlying25 hi0 hz0 hz1 hz2 rfl ?a2eqb1 _ j (flatT (RR.take j)) rfl (HO5.out.alloc _) _ 1 (flatT [(⟨n, k⟩ : Tm)]) rfl ?a2eqb2 ?a2eqb3 ?a2eqb4 ?a2eqb5 ?a2eqb6)
            case a2eqb1 => omega
            case a2eqb2 => exact Src.new (w := w5) _ _ Try.underlying25 rfl (fun u hu => flatT_one [(⟨n, k⟩ : Tm)] u hu)
            case a2eqb3 => (unfold maxLen; omega)
            case a2eqb4 => omega
            case a2eqb5 => (simp; omega)
            intro v6 w6 hown hgr hat
            obtain ⟨A6, c6, rfl⟩ := hown.form
            have hnb5 := fun g (hg : (Value.slice A5 j c5).ownBlock = some g) => (HO5.out.lt g hg).1
            have hG6 : GrownX (fun i => W4.heap.size ≤ i) w5 w6 := (GrownX.of_below ((Below.refl w5.heap.size w5).alloc (Nat.le_refl _) (.cells #[.int .u64 (n : Nat), .int .i64 k.kind, .string k.peer, .int .i64 k.fam] 32))).trans ⟨hgr.os, hgr.tape, hgr.output, hgr.size, fun i hi hx => hgr.block i hi (fun e => hx (hnb5 i e.symm))⟩
            have HO6 := Lib.hid hown
            have HS6 : Hid (Sees w6 w1.heap.size _ RR) := HR5.out.keep (fun g h1 h2 h3 => hG6.block g h2 (fun e => by have := hgw4.out g h3; omega)) hG6.size
            have HA6 : Hid (Below w.heap.size w w6) := hG6.below HA5.out (fun i hi => by omega) HA5.out.size
            have z46 : W4.heap.size ≤ w6.heap.size := by have := hG6.size; omega
            clear hown hgr hat hnb5 hG6 x0 x1 x2 x3 HO5 HX5 HR5 HA5
            have HSRC3 : Hid (Src Try.prog w6 25 4 (.slice (some ⟨g, off, none⟩) 0 0) 0 (flatT [])) := by
              show Src _ _ _ _ _ _ _
              exact Src.slice Try.underlying25 rfl (fun j u hu => by simp [flatT] at hu) (fun u hu => by cases hu)
            go_wp2_with (at_builtin; refine wpList_append_m rfl (.tmp 61) (.tmp 64) 25 25 rfl W4.heap.size 32 i0 _ 4 40 Try.underlying25 hi0 hz0 hz1 hz2 rfl ?a2eqc1 _ (j + 1) (flatT (RR.take j) ++ flatT [(⟨n, k⟩ : Tm)]) rfl HO6.out _ 0 (flatT ([] : List Tm)) rfl ?a2eqc2 ?a2eqc3 ?a2eqc4 ?a2eqc5 ?a2eqc6)
            case a2eqc1 => omega
            case a2eqc2 => exact HSRC3.out
            case a2eqc3 => (unfold maxLen; omega)
            case a2eqc4 => omega
            case a2eqc5 => exact z46
            intro v7 w7 hown hgr hat
            have HO7 : Hid (FiredAt w7 W4.heap.size v7 ((RR.take j) ++ (⟨n, k⟩ : Tm) :: ([] : List Tm))) := by
              show OwnM _ _ _ _ _ _ _
              have e1 : ((RR.take j) ++ (⟨n, k⟩ : Tm) :: ([] : List Tm)).length = (j + 1) + 0 := by simp <;> omega
              have e2 : flatT ((RR.take j) ++ (⟨n, k⟩ : Tm) :: ([] : List Tm)) = flatT (RR.take j) ++ flatT [(⟨n, k⟩ : Tm)] ++ flatT ([] : List Tm) := by
                rw [← flatT_append, ← flatT_append, List.append_assoc]
                rfl
              rw [e1, e2]
              first | exact hown | (rw [List.append_assoc]; exact hown) | simpa using hown
            have hnb6 := fun g (hg : (Value.slice A6 (j + 1) c6).ownBlock = some g) => (HO6.out.lt g hg).1
            have HA7 : Hid (Below w.heap.size w w7) := HA6.out.grown hgr HA6.out.size (fun g hg => by have := hnb6 g hg; omega)
            clear hown hgr hat hnb6 HO6 HS6 HA6
            obtain ⟨A7, c7, e7⟩ := HO7.out.form
            subst e7
            go_wp2_with fail
            go_ret2
            refine ⟨_, _, rfl, by have h := HRES.out; rw [List.drop_eq_nil_of_le (by omega)] at h; exact h, ?_, HO7.out.lower (by omega), HA7.out⟩
            rw [HRR.out]
            have h := perm_ins (l := RR) ⟨n, k⟩ j
            rw [List.drop_eq_nil_of_le (by omega)] at h
            exact h
          · have hcl2 : ¬ c2 = j := fun e => hcl e.symm
            obtain ⟨x0, x1, x2, x3⟩ := HX9.out.c4
            go_wp2_with (at_builtin; refine wpList_append_m rfl (.tmp 52) (.tmp 55) 25 25 rfl W4.heap.size 32 i0 _ 4 40 Try.underlying25 hi0 hz0 hz1 hz2 rfl ?a2nea1 _ 0 [] rfl (OwnM.nil _ _ _ _) _ j (flatT (RR.take j)) rfl ?a2nea2 ?a2nea3 ?a2nea4 ?a2nea5 ?a2nea6)
            case a2nea1 => omega
            case a2nea2 => exact HSRC1.out
            case a2nea3 => (unfold maxLen; omega)
            case a2nea4 => omega
            case a2nea5 => exact Nat.le_refl _
            intro v5 w5 hown hgr hat
            try simp only [Nat.zero_add, List.nil_append] at hown
            obtain ⟨A5, c5, rfl⟩ := hown.form
            have hb5 : Below W4.heap.size W4 w5 := below_of_grown hgr
            have HO5 := Lib.hid hown
            have HX5 := Lib.hid (HX9.out.below hb5 HX9.out.lt)
            have HR5 : Hid (Sees w5 w1.heap.size _ RR) := HS9.out.below hb5
            have HA5 := Lib.hid (HA9.out.trans (hb5.mono HA9.out.size))
            have z45 : W4.heap.size ≤ w5.heap.size := hb5.size
            clear hown hgr hat hb5 x0 x1 x2 x3
            obtain ⟨x0, x1, x2, x3⟩ := HX5.out.c4
            go_wp2_with (at_builtin; refine wpList_append_m rfl (.tmp 57) (.tmp 59) 25 25 rfl W4.heap.size 32 i0 _ 4 40 Try.underlying25 hi0 hz0 hz1 hz2 rfl ?a2neb1 _ j (flatT (RR.take j)) rfl (HO5.out.alloc _) _ 1 (flatT [(⟨n, k⟩ : Tm)]) rfl ?a2neb2 ?a2neb3 ?a2neb4 ?a2neb5 ?a2neb6)
            case a2neb1 => omega
            case a2neb2 => exact Src.new (w := w5) _ _ Try.underlying25 rfl (fun u hu => flatT_one [(⟨n, k⟩ : Tm)] u hu)
            case a2neb3 => (unfold maxLen; omega)
            case a2neb4 => omega
            case a2neb5 => (simp; omega)
            intro v6 w6 hown hgr hat
            obtain ⟨A6, c6, rfl⟩ := hown.form
            have hnb5 := fun g (hg : (Value.slice A5 j c5).ownBlock = some g) => (HO5.out.lt g hg).1
            have hG6 : GrownX (fun i => W4.heap.size ≤ i) w5 w6 := (GrownX.of_below ((Below.refl w5.heap.size w5).alloc (Nat.le_refl _) (.cells #[.int .u64 (n : Nat), .int .i64 k.kind, .string k.peer, .int .i64 k.fam] 32))).trans ⟨hgr.os, hgr.tape, hgr.output, hgr.size, fun i hi hx => hgr.block i hi (fun e => hx (hnb5 i e.symm))⟩
            have HO6 := Lib.hid hown
            have HS6 : Hid (Sees w6 w1.heap.size _ RR) := HR5.out.keep (fun g h1 h2 h3 => hG6.block g h2 (fun e => by have := hgw4.out g h3; omega)) hG6.size
            have HA6 : Hid (Below w.heap.size w w6) := hG6.below HA5.out (fun i hi => by omega) HA5.out.size
            have z46 : W4.heap.size ≤ w6.heap.size := by have := hG6.size; omega
            clear hown hgr hat hnb5 hG6 x0 x1 x2 x3 HO5 HX5 HR5 HA5
            have HSRC3 : Hid (Src Try.prog w6 25 4 (.slice (some ⟨g, off + j * 4, none⟩) (RR.length - j) (c2 - j)) (RR.length - j) (flatT (RR.drop j))) := by
              have h := Src.sees (HS6.out.drop hj _ (fun _ => rfl))
              rw [hld2.out] at h
              exact h
            go_wp2_with (at_builtin; refine wpList_append_m rfl (.tmp 61) (.tmp 64) 25 25 rfl W4.heap.size 32 i0 _ 4 40 Try.underlying25 hi0 hz0 hz1 hz2 rfl ?a2nec1 _ (j + 1) (flatT (RR.take j) ++ flatT [(⟨n, k⟩ : Tm)]) rfl HO6.out _ (RR.length - j) (flatT (RR.drop j)) rfl ?a2nec2 ?a2nec3 ?a2nec4 ?a2nec5 ?a2nec6)
            case a2nec1 => omega
            case a2nec2 => exact HSRC3.out
            case a2nec3 => (unfold maxLen; omega)
            case a2nec4 => omega
            case a2nec5 => exact z46
            intro v7 w7 hown hgr hat
            have HO7 : Hid (FiredAt w7 W4.heap.size v7 ((RR.take j) ++ (⟨n, k⟩ : Tm) :: (RR.drop j))) := by
              show OwnM _ _ _ _ _ _ _
              have e1 : ((RR.take j) ++ (⟨n, k⟩ : Tm) :: (RR.drop j)).length = (j + 1) + (RR.length - j) := by simp <;> omega
              have e2 : flatT ((RR.take j) ++ (⟨n, k⟩ : Tm) :: (RR.drop j)) = flatT (RR.take j) ++ flatT [(⟨n, k⟩ : Tm)] ++ flatT (RR.drop j) := by
                rw [← flatT_append, ← flatT_append, List.append_assoc]
                rfl
              rw [e1, e2]
              first | exact hown | (rw [List.append_assoc]; exact hown) | simpa using hown
            have hnb6 := fun g (hg : (Value.slice A6 (j + 1) c6).ownBlock = some g) => (HO6.out.lt g hg).1
            have HA7 : Hid (Below w.heap.size w w7) := HA6.out.grown hgr HA6.out.size (fun g hg => by have := hnb6 g hg; omega)
            clear hown hgr hat hnb6 HO6 HS6 HA6
            obtain ⟨A7, c7, e7⟩ := HO7.out.form
            subst e7
            go_wp2_with fail
            go_ret2
            refine ⟨_, _, rfl, HRES.out, ?_, HO7.out.lower (by omega), HA7.out⟩
            rw [HRR.out]
            exact perm_ins ⟨n, k⟩ j
      · obtain ⟨i, hi1, hi2⟩ : ∃ i, (j : Int) - 1 = (i : Nat) ∧ j - 1 = i := ⟨j - 1, by omega, rfl⟩
        rw [hi2] at hop
        have HT := Lib.hid ht
        obtain ⟨g2, c2', e2, _⟩ := FiredAt.at_ HR.out hop
        simp only [Value.slice.injEq] at e2
        obtain ⟨rfl, _, rfl⟩ := e2
        have hpos : 0 < j := by omega
        have hil : i < RR.length := by omega
        have hwr : IntKind.i64.wrap ((j : Int) - 1) = (i : Int) := by rw [hi1]; all_goals (simp [IntKind.wrap, IntKind.bits, IntKind.signed] <;> omega)
        have hst : FiredAt wr.drew w1.heap.size (.slice (some ⟨g2, 0, none⟩) RR.length c2) RR ∧ CellsAt wr.drew w2.heap.size #[.int .u64 (n : Nat), .int .i64 k.kind, .string k.peer, .int .i64 k.fam] 32 ∧ Below w.heap.size w wr.drew := ⟨HR.out, HX.out, below_drewN HA.out 1⟩
        clear hi1 hi2 ht HST HR HX HA
        go_wp2_with fail
        refine wp_region_held_drew (S := fun w' => FiredAt w' w1.heap.size (.slice (some ⟨g2, 0, none⟩) RR.length c2) RR ∧ CellsAt w' w2.heap.size #[.int .u64 (n : Nat), .int .i64 k.kind, .string k.peer, .int .i64 k.fam] 32 ∧ Below w.heap.size w w') (by kernel_rfl) (hst) (fun hHeld => ?_)
        refine wpAnyH_take (i := 0) (oi := { dst := some 39, op := Op.move (Operand.tmp 10), type := 3, pos := "ref.go:74", after := #[], guard := none }) (v := ?_) rfl (by kernel_rfl) (by kernel_rfl) (by kernel_rfl) (fun _ _ _ h => h) (Or.inl ⟨by rfl, ?_⟩) hHeld ?_
        rotate_left
        · intro w hSw
          clear hSw
          go_simp
          try with_reducible rfl
        try simp only [Act.put, List.setIfInBounds_toArray, List.set_cons_zero, List.set_cons_succ]
        refine wpAnyH_take (i := 1) (oi := { dst := some 40, op := Op.binOp BinOp.gtr 3 (Operand.tmp 39) (Operand.const (Value.int IntKind.i64 0)) 3, type := 4, pos := "ref.go:74", after := #[{ on := 0, ground := Ground.data }], guard := none }) (v := ?_) rfl (by kernel_rfl) (by kernel_rfl) (by kernel_rfl) (fun _ _ _ h => h) (Or.inl ⟨by rfl, ?_⟩) hHeld ?_
        rotate_left
        · intro w hSw
          clear hSw
          go_simp
          try with_reducible rfl
        try simp only [Act.put, List.setIfInBounds_toArray, List.set_cons_zero, List.set_cons_succ]
        refine wpAnyH_take (i := 2) (oi := { dst := some 41, op := Op.move (Operand.tmp 40), type := 4, pos := "ref.go:74", after := #[{ on := 1, ground := Ground.data }], guard := none }) (v := ?_) rfl (by kernel_rfl) (by kernel_rfl) (by kernel_rfl) (fun _ _ _ h => h) (Or.inl ⟨by rfl, ?_⟩) hHeld ?_
        rotate_left
        · intro w hSw
          clear hSw
          go_simp
          try with_reducible rfl
        try simp only [Act.put, List.setIfInBounds_toArray, List.set_cons_zero, List.set_cons_succ]
        refine wpAnyH_take (i := 3) (oi := { dst := some 42, op := Op.load 32 (Operand.tmp 9), type := 32, pos := "ref.go:74", after := #[{ on := 2, ground := Ground.guard }], guard := some (2, true) }) (v := ?_) rfl (by kernel_rfl) (by kernel_rfl) (by kernel_rfl) (fun _ _ _ h => h) (Or.inl ⟨by rfl, ?_⟩) hHeld ?_
        rotate_left
        · intro w hSw
          obtain ⟨q1, q2, q3⟩ := hSw
          obtain ⟨x0, x1, x2, x3⟩ := q2.c4
          obtain ⟨p0, p1, p2, p3⟩ := FiredAt.cs q1 hop
          go_simp
          try with_reducible rfl
        try simp only [Act.put, List.setIfInBounds_toArray, List.set_cons_zero, List.set_cons_succ]
        refine wpAnyH_take (i := 4) (oi := { dst := some 43, op := Op.move (Operand.tmp 8), type := 25, pos := "ref.go:74", after := #[{ on := 2, ground := Ground.guard }], guard := some (2, true) }) (v := ?_) rfl (by kernel_rfl) (by kernel_rfl) (by kernel_rfl) (fun _ _ _ h => h) (Or.inl ⟨by rfl, ?_⟩) hHeld ?_
        rotate_left
        · intro w hSw
          clear hSw
          go_simp
          try with_reducible rfl
        try simp only [Act.put, List.setIfInBounds_toArray, List.set_cons_zero, List.set_cons_succ]
        refine wpAnyH_take (i := 5) (oi := { dst := some 44, op := Op.move (Operand.tmp 10), type := 3, pos := "ref.go:74", after := #[{ on := 2, ground := Ground.guard }], guard := some (2, true) }) (v := ?_) rfl (by kernel_rfl) (by kernel_rfl) (by kernel_rfl) (fun _ _ _ h => h) (Or.inl ⟨by rfl, ?_⟩) hHeld ?_
        rotate_left
        · intro w hSw
          clear hSw
          go_simp
          try with_reducible rfl
        try simp only [Act.put, List.setIfInBounds_toArray, List.set_cons_zero, List.set_cons_succ]
        refine wpAnyH_take (i := 6) (oi := { dst := some 45, op := Op.binOp BinOp.sub 3 (Operand.tmp 44) (Operand.const (Value.int IntKind.i64 1)) 3, type := 3, pos := "ref.go:74", after := #[{ on := 5, ground := Ground.data }, { on := 2, ground := Ground.guard }], guard := some (2, true) }) (v := ?_) rfl (by kernel_rfl) (by kernel_rfl) (by kernel_rfl) (fun _ _ _ h => h) (Or.inl ⟨by rfl, ?_⟩) hHeld ?_
        rotate_left
        · intro w hSw
          clear hSw
          go_simp
          try with_reducible rfl
        try simp only [Act.put, List.setIfInBounds_toArray, List.set_cons_zero, List.set_cons_succ]
        refine wpAnyH_take (i := 7) (oi := { dst := some 46, op := Op.indexAddr 25 (Operand.tmp 43) (Operand.tmp 45), type := 0, pos := "ref.go:74", after := #[{ on := 4, ground := Ground.data }, { on := 6, ground := Ground.data }, { on := 2, ground := Ground.guard }], guard := some (2, true) }) (v := ?_) rfl (by kernel_rfl) (by kernel_rfl) (by kernel_rfl) (fun _ _ _ h => h) (Or.inl ⟨by rfl, ?_⟩) hHeld ?_
        rotate_left
        · intro w hSw
          clear hSw
          go_simp
          try with_reducible rfl
        try simp only [Act.put, List.setIfInBounds_toArray, List.set_cons_zero, List.set_cons_succ]
        refine wpAnyH_take (i := 8) (oi := { dst := some 47, op := Op.load 32 (Operand.tmp 46), type := 32, pos := "ref.go:74", after := #[{ on := 7, ground := Ground.data }, { on := 2, ground := Ground.guard }], guard := some (2, true) }) (v := ?_) rfl (by kernel_rfl) (by kernel_rfl) (by kernel_rfl) (fun _ _ _ h => h) (Or.inl ⟨by rfl, ?_⟩) hHeld ?_
        rotate_left
        · intro w hSw
          obtain ⟨q1, q2, q3⟩ := hSw
          obtain ⟨x0, x1, x2, x3⟩ := q2.c4
          obtain ⟨p0, p1, p2, p3⟩ := FiredAt.cs q1 hop
          go_simp
          try with_reducible rfl
        try simp only [Act.put, List.setIfInBounds_toArray, List.set_cons_zero, List.set_cons_succ]
        refine wpAnyH_ready (rs := [9]) (by kernel_rfl) (by simp) ?_
        refine AllReadyH.cons (o := { dst := some 48, op := Op.call { callee := Callee.value (Operand.func 33), args := #[Operand.tmp 42, Operand.tmp 47], argTypes := #[32, 32] }, type := 4, pos := "ref.go:74", after := #[{ on := 3, ground := Ground.data }, { on := 8, ground := Ground.data }, { on := 2, ground := Ground.chain }, { on := 2, ground := Ground.guard }], guard := some (2, true) }) rfl (fun K hK => ?_) AllReadyH.nil
        go_simp
        refine (rahead_any ⟨n, k⟩ p _).mono ?_
        rintro e w9 ⟨rfl, hb⟩
        rw [HT.out]
        go_wp2_with fail
        refine hK.out _ _ (And.intro (FiredAt.below hHeld.1 hb) (And.intro (hHeld.2.1.below hb hHeld.2.1.lt) (hHeld.2.2.trans (hb.mono hHeld.2.2.size)))) (fun hHeld => ?_)
        clear hK K
        try simp only [Act.put, List.setIfInBounds_toArray, List.set_cons_zero, List.set_cons_succ]
        refine wpAnyH_take (i := 10) (oi := { dst := some 49, op := Op.pick (Operand.tmp 41) (Operand.tmp 48) (Operand.const (Value.bool false)), type := 4, pos := "ref.go:74", after := #[{ on := 2, ground := Ground.data }, { on := 9, ground := Ground.data }], guard := none }) (v := ?_) rfl (by kernel_rfl) (by kernel_rfl) (by kernel_rfl) (fun _ _ _ h => h) (Or.inl ⟨by rfl, ?_⟩) hHeld ?_
        rotate_left
        · intro w hSw
          clear hSw
          go_simp
          try with_reducible rfl
        try simp only [Act.put, List.setIfInBounds_toArray, List.set_cons_zero, List.set_cons_succ]
        refine wpAnyH_done (by kernel_rfl) ?_ _
        clear hwr
        have HR9 := Lib.hid hHeld.1
        have HX9 := Lib.hid hHeld.2.1
        have HA9 := Lib.hid hHeld.2.2
        clear hHeld hb hst hop
        generalize w9 = W4 at HR9 HX9 HA9 ⊢
        generalize hA2 : (some ⟨g2, 0, none⟩ : Option Addr) = A2 at *
        clear hA2
        have z04 : w.heap.size ≤ W4.heap.size := HA9.out.size
        have hlj : (RR.take j).length = j := by rw [List.length_take]; omega
        have hld : (RR.drop j).length = RR.length - j := by rw [List.length_drop]
        have HS9 := Lib.hid (Sees.of_own HR9.out)
        have hgw4 := Lib.hid (fun g (hg : (Value.slice A2 RR.length c2).ownBlock = some g) => (HR9.out.lt g hg).2)
        have HSRC1 : Hid (Src Try.prog W4 25 4 (.slice A2 j c2) j (flatT (RR.take j))) := by
          have h := Src.sees (HS9.out.take hj)
          rw [hlj] at h
          exact h
        obtain ⟨A', c', eA, hcap1, hcap2, hcap3, hcap4, _⟩ := HS9.out.ex
        simp only [Value.slice.injEq] at eA
        obtain ⟨rfl, _, rfl⟩ := eA
        have hoff := Lib.hid HR9.out
        have HD := Lib.hid (show RR.length - j ≤ 1024 by omega)
        have hld2 := Lib.hid hld
        clear hlj hld HR9
        unfold maxLen at hcap2

        cases A2 with
        | none =>
          exfalso
          have hc0 := hcap3 rfl
          omega
        | some a =>
          obtain ⟨g, off, sp⟩ := a
          have hsp := hcap4 _ rfl
          simp only at hsp
          subst hsp
          clear hcap3 hcap4
          have hjc2 : j ≤ c2 := by omega
          by_cases hcl : j = c2
          · subst hcl
            obtain ⟨x0, x1, x2, x3⟩ := HX9.out.c4
            go_wp2_with (at_builtin; refine wpList_append_m rfl (.tmp 52) (.tmp 55) 25 25 rfl W4.heap.size 32 i0 _ 4 40 Try.underlying25 hi0 hz0 hz1 hz2 rfl ?b2eqa1 _ 0 [] rfl (OwnM.nil _ _ _ _) _ j (flatT (RR.take j)) rfl ?b2eqa2 ?b2eqa3 ?b2eqa4 ?b2eqa5 ?b2eqa6)
            case b2eqa1 => omega
            case b2eqa2 => exact HSRC1.out
            case b2eqa3 => (unfold maxLen; omega)
            case b2eqa4 => omega
            case b2eqa5 => exact Nat.le_refl _
            intro v5 w5 hown hgr hat
            try simp only [Nat.zero_add, List.nil_append] at hown
            obtain ⟨A5, c5, rfl⟩ := hown.form
            have hb5 : Below W4.heap.size W4 w5 := below_of_grown hgr
            have HO5 := Lib.hid hown
            have HX5 := Lib.hid (HX9.out.below hb5 HX9.out.lt)
            have HR5 : Hid (Sees w5 w1.heap.size _ RR) := HS9.out.below hb5
            have HA5 := Lib.hid (HA9.out.trans (hb5.mono HA9.out.size))
            have z45 : W4.heap.size ≤ w5.heap.size := hb5.size
            clear hown hgr hat hb5 x0 x1 x2 x3
            obtain ⟨x0, x1, x2, x3⟩ := HX5.out.c4
            go_wp2_with (at_builtin; refine wpList_append_m rfl (.tmp 57) (.tmp 59) 25 25 rfl W4.heap.size 32 i0 _ 4 40 Try.underlying25 hi0 hz0 hz1 hz2 rfl ?b2eqb1 _ j (flatT (RR.take j)) rfl (HO5.out.alloc _) _ 1 (flatT [(⟨n, k⟩ : Tm)]) rfl ?b2eqb2 ?b2eqb3 ?b2eqb4 ?b2eqb5 ?b2eqb6)
            case b2eqb1 => omega
            case b2eqb2 => exact Src.new (w := w5) _ _ Try.underlying25 rfl (fun u hu => flatT_one [(⟨n, k⟩ : Tm)] u hu)
            case b2eqb3 => (unfold maxLen; omega)
            case b2eqb4 => omega
            case b2eqb5 => (simp; omega)
            intro v6 w6 hown hgr hat
            obtain ⟨A6, c6, rfl⟩ := hown.form
            have hnb5 := fun g (hg : (Value.slice A5 j c5).ownBlock = some g) => (HO5.out.lt g hg).1
            have hG6 : GrownX (fun i => W4.heap.size ≤ i) w5 w6 := (GrownX.of_below ((Below.refl w5.heap.size w5).alloc (Nat.le_refl _) (.cells #[.int .u64 (n : Nat), .int .i64 k.kind, .string k.peer, .int .i64 k.fam] 32))).trans ⟨hgr.os, hgr.tape, hgr.output, hgr.size, fun i hi hx => hgr.block i hi (fun e => hx (hnb5 i e.symm))⟩
            have HO6 := Lib.hid hown
            have HS6 : Hid (Sees w6 w1.heap.size _ RR) := HR5.out.keep (fun g h1 h2 h3 => hG6.block g h2 (fun e => by have := hgw4.out g h3; omega)) hG6.size
            have HA6 : Hid (Below w.heap.size w w6) := hG6.below HA5.out (fun i hi => by omega) HA5.out.size
            have z46 : W4.heap.size ≤ w6.heap.size := by have := hG6.size; omega
            clear hown hgr hat hnb5 hG6 x0 x1 x2 x3 HO5 HX5 HR5 HA5
            have HSRC3 : Hid (Src Try.prog w6 25 4 (.slice (some ⟨g, off, none⟩) 0 0) 0 (flatT [])) := by
              show Src _ _ _ _ _ _ _
              exact Src.slice Try.underlying25 rfl (fun j u hu => by simp [flatT] at hu) (fun u hu => by cases hu)
            go_wp2_with (at_builtin; refine wpList_append_m rfl (.tmp 61) (.tmp 64) 25 25 rfl W4.heap.size 32 i0 _ 4 40 Try.underlying25 hi0 hz0 hz1 hz2 rfl ?b2eqc1 _ (j + 1) (flatT (RR.take j) ++ flatT [(⟨n, k⟩ : Tm)]) rfl HO6.out _ 0 (flatT ([] : List Tm)) rfl ?b2eqc2 ?b2eqc3 ?b2eqc4 ?b2eqc5 ?b2eqc6)
            case b2eqc1 => omega
            case b2eqc2 => exact HSRC3.out
            case b2eqc3 => (unfold maxLen; omega)
            case b2eqc4 => omega
            case b2eqc5 => exact z46
            intro v7 w7 hown hgr hat
            have HO7 : Hid (FiredAt w7 W4.heap.size v7 ((RR.take j) ++ (⟨n, k⟩ : Tm) :: ([] : List Tm))) := by
              show OwnM _ _ _ _ _ _ _
              have e1 : ((RR.take j) ++ (⟨n, k⟩ : Tm) :: ([] : List Tm)).length = (j + 1) + 0 := by simp <;> omega
              have e2 : flatT ((RR.take j) ++ (⟨n, k⟩ : Tm) :: ([] : List Tm)) = flatT (RR.take j) ++ flatT [(⟨n, k⟩ : Tm)] ++ flatT ([] : List Tm) := by
                rw [← flatT_append, ← flatT_append, List.append_assoc]
                rfl
              rw [e1, e2]
              first | exact hown | (rw [List.append_assoc]; exact hown) | simpa using hown
            have hnb6 := fun g (hg : (Value.slice A6 (j + 1) c6).ownBlock = some g) => (HO6.out.lt g hg).1
            have HA7 : Hid (Below w.heap.size w w7) := HA6.out.grown hgr HA6.out.size (fun g hg => by have := hnb6 g hg; omega)
            clear hown hgr hat hnb6 HO6 HS6 HA6
            obtain ⟨A7, c7, e7⟩ := HO7.out.form
            subst e7
            go_wp2_with fail
            go_ret2
            refine ⟨_, _, rfl, by have h := HRES.out; rw [List.drop_eq_nil_of_le (by omega)] at h; exact h, ?_, HO7.out.lower (by omega), HA7.out⟩
            rw [HRR.out]
            have h := perm_ins (l := RR) ⟨n, k⟩ j
            rw [List.drop_eq_nil_of_le (by omega)] at h
            exact h
          · have hcl2 : ¬ c2 = j := fun e => hcl e.symm
            obtain ⟨x0, x1, x2, x3⟩ := HX9.out.c4
            go_wp2_with (at_builtin; refine wpList_append_m rfl (.tmp 52) (.tmp 55) 25 25 rfl W4.heap.size 32 i0 _ 4 40 Try.underlying25 hi0 hz0 hz1 hz2 rfl ?b2nea1 _ 0 [] rfl (OwnM.nil _ _ _ _) _ j (flatT (RR.take j)) rfl ?b2nea2 ?b2nea3 ?b2nea4 ?b2nea5 ?b2nea6)
            case b2nea1 => omega
            case b2nea2 => exact HSRC1.out
            case b2nea3 => (unfold maxLen; omega)
            case b2nea4 => omega
            case b2nea5 => exact Nat.le_refl _
            intro v5 w5 hown hgr hat
            try simp only [Nat.zero_add, List.nil_append] at hown
            obtain ⟨A5, c5, rfl⟩ := hown.form
            have hb5 : Below W4.heap.size W4 w5 := below_of_grown hgr
            have HO5 := Lib.hid hown
            have HX5 := Lib.hid (HX9.out.below hb5 HX9.out.lt)
            have HR5 : Hid (Sees w5 w1.heap.size _ RR) := HS9.out.below hb5
            have HA5 := Lib.hid (HA9.out.trans (hb5.mono HA9.out.size))
            have z45 : W4.heap.size ≤ w5.heap.size := hb5.size
            clear hown hgr hat hb5 x0 x1 x2 x3
            obtain ⟨x0, x1, x2, x3⟩ := HX5.out.c4
            go_wp2_with (at_builtin; refine wpList_append_m rfl (.tmp 57) (.tmp 59) 25 25 rfl W4.heap.size 32 i0 _ 4 40 Try.underlying25 hi0 hz0 hz1 hz2 rfl ?b2neb1 _ j (flatT (RR.take j)) rfl (HO5.out.alloc _) _ 1 (flatT [(⟨n, k⟩ : Tm)]) rfl ?b2neb2 ?b2neb3 ?b2neb4 ?b2neb5 ?b2neb6)
            case b2neb1 => omega
            case b2neb2 => exact Src.new (w := w5) _ _ Try.underlying25 rfl (fun u hu => flatT_one [(⟨n, k⟩ : Tm)] u hu)
            case b2neb3 => (unfold maxLen; omega)
            case b2neb4 => omega
            case b2neb5 => (simp; omega)
            intro v6 w6 hown hgr hat
            obtain ⟨A6, c6, rfl⟩ := hown.form
            have hnb5 := fun g (hg : (Value.slice A5 j c5).ownBlock = some g) => (HO5.out.lt g hg).1
            have hG6 : GrownX (fun i => W4.heap.size ≤ i) w5 w6 := (GrownX.of_below ((Below.refl w5.heap.size w5).alloc (Nat.le_refl _) (.cells #[.int .u64 (n : Nat), .int .i64 k.kind, .string k.peer, .int .i64 k.fam] 32))).trans ⟨hgr.os, hgr.tape, hgr.output, hgr.size, fun i hi hx => hgr.block i hi (fun e => hx (hnb5 i e.symm))⟩
            have HO6 := Lib.hid hown
            have HS6 : Hid (Sees w6 w1.heap.size _ RR) := HR5.out.keep (fun g h1 h2 h3 => hG6.block g h2 (fun e => by have := hgw4.out g h3; omega)) hG6.size
            have HA6 : Hid (Below w.heap.size w w6) := hG6.below HA5.out (fun i hi => by omega) HA5.out.size
            have z46 : W4.heap.size ≤ w6.heap.size := by have := hG6.size; omega
            clear hown hgr hat hnb5 hG6 x0 x1 x2 x3 HO5 HX5 HR5 HA5
            have HSRC3 : Hid (Src Try.prog w6 25 4 (.slice (some ⟨g, off + j * 4, none⟩) (RR.length - j) (c2 - j)) (RR.length - j) (flatT (RR.drop j))) := by
              have h := Src.sees (HS6.out.drop hj _ (fun _ => rfl))
              rw [hld2.out] at h
              exact h
            go_wp2_with (at_builtin; refine wpList_append_m rfl (.tmp 61) (.tmp 64) 25 25 rfl W4.heap.size 32 i0 _ 4 40 Try.underlying25 hi0 hz0 hz1 hz2 rfl ?b2nec1 _ (j + 1) (flatT (RR.take j) ++ flatT [(⟨n, k⟩ : Tm)]) rfl HO6.out _ (RR.length - j) (flatT (RR.drop j)) rfl ?b2nec2 ?b2nec3 ?b2nec4 ?b2nec5 ?b2nec6)
            case b2nec1 => omega
            case b2nec2 => exact HSRC3.out
            case b2nec3 => (unfold maxLen; omega)
            case b2nec4 => omega
            case b2nec5 => exact z46
            intro v7 w7 hown hgr hat
            have HO7 : Hid (FiredAt w7 W4.heap.size v7 ((RR.take j) ++ (⟨n, k⟩ : Tm) :: (RR.drop j))) := by
              show OwnM _ _ _ _ _ _ _
              have e1 : ((RR.take j) ++ (⟨n, k⟩ : Tm) :: (RR.drop j)).length = (j + 1) + (RR.length - j) := by simp <;> omega
              have e2 : flatT ((RR.take j) ++ (⟨n, k⟩ : Tm) :: (RR.drop j)) = flatT (RR.take j) ++ flatT [(⟨n, k⟩ : Tm)] ++ flatT (RR.drop j) := by
                rw [← flatT_append, ← flatT_append, List.append_assoc]
                rfl
              rw [e1, e2]
              first | exact hown | (rw [List.append_assoc]; exact hown) | simpa using hown
            have hnb6 := fun g (hg : (Value.slice A6 (j + 1) c6).ownBlock = some g) => (HO6.out.lt g hg).1
            have HA7 : Hid (Below w.heap.size w w7) := HA6.out.grown hgr HA6.out.size (fun g hg => by have := hnb6 g hg; omega)
            clear hown hgr hat hnb6 HO6 HS6 HA6
            obtain ⟨A7, c7, e7⟩ := HO7.out.form
            subst e7
            go_wp2_with fail
            go_ret2
            refine ⟨_, _, rfl, HRES.out, ?_, HO7.out.lower (by omega), HA7.out⟩
            rw [HRR.out]
            exact perm_ins ⟨n, k⟩ j
end Go.Proofs.Ytcgegaahdbnacaa
