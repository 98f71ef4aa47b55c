/-
  Timers: wheels filled by small numbers: the walks. Conditions: sizes.
-/
import Derived.Test.YtcgegaahdbnacaaWhJ
set_option linter.unusedVariables false
set_option linter.unusedSimpArgs false
namespace Go.Proofs.Ytcgegaahdbnacaa
open Go.RowKit Go.MapKept Go.Shelf Go.Lib
open Go.Maps (Keyed)

set_option maxRecDepth 100000 in
set_option maxHeartbeats 8000000 in
theorem filled_no (A : Option Addr) (len cap : Nat) (X : List SetV) (w : World) (h : SetsIn w A len cap X) :
    Calls Try.prog 7 #[.slice A len cap, .bool false] w (FillPost w X) := by
  have hm1 := h.cap1
  have hm2 := h.cap2
  have hXl : len ≤ X.length := by rw [h.xl]; exact Nat.le_refl _
  unfold maxLen at hm2
  obtain ⟨N, hN, hN1, hN2⟩ : ∃ N : Nat, min (len : Int) 60 = (N : Int) ∧ N ≤ len ∧ N ≤ 60 := ⟨min len 60, by omega, by omega, by omega⟩
  have hNN : Hid (N = min len 60) := by show _ = _; omega
  have HS := Lib.hid h
  clear h
  go_enter Try.func7, Try.ntmps7
  go_wp2_with fail
  refine (wnew_any _).mono ?_
  rintro e w1 ⟨rfl, hW, hb, hz⟩
  have HW0 := Lib.hid hW
  have HB0 := Lib.hid hb
  clear hW hb hz
  go_wp2_with fail
  clear hN
  go_loopw [7] (fun x wr => ∃ (j : Nat) (S : List Tm), j ≤ N ∧ x = .int .i64 j ∧ S.length ≤ j ∧ Hid (WheelAt wr (w.heap.size + 1) w.heap.size S) ∧ Hid (S.Perm (fillT ((X.take j).map SetV.tm))) ∧ Hid (Below w.heap.size w wr)) (fun x _ => N + 1 - (intOf x).toNat)
  case atStart => exact ⟨0, [], by omega, rfl, by simp, HW0.out, by show List.Perm _ _; simp [fillT], HB0.out⟩
  case round =>
    obtain ⟨j, S, hj, rfl, hSl, HW, HP, HB⟩ := hrel
    clear HW0 HB0
    by_cases hlt : j < N
    · obtain ⟨s, hs1⟩ : ∃ s, X[j]? = some s := ⟨X[j], List.getElem?_eq_getElem (by omega)⟩
      obtain ⟨bb, off, hA, hbl, hs, hat⟩ := HS.out.at_ _ _ hs1
      subst hA
      have HSAT := Lib.hid hat
      have HX := Lib.hid hs1
      have HBLT := Lib.hid hbl
      have hbz := HB.out.size
      clear hat hs1
      have hjl : j < len := by omega
      have hbw : bb < wr.heap.size := by omega
      have HSL : Hid (S.length < 1024) := by show _ < _; omega
      obtain ⟨x0, x1, x2, x3⟩ := HSAT.out.below HB.out hbl
      go_wp2_with fail
      clear x0 x1 x2 x3
      have hdd : SetAt wr.drew bb (off + j * 4) s := HSAT.out.below (below_drewN HB.out 1) hbl
      have hwr : IntKind.u64.wrap (s.at_ : Int) = (s.at_ : Int) := by have := hs.at_; simp [IntKind.wrap, IntKind.bits, IntKind.signed]; omega
      refine wp_region_held_drew (S := fun w' => SetAt w' bb (off + j * 4) s) (by kernel_rfl) (hdd) (fun hHeld => ?_)
      refine wpAnyH_take (i := 0) (oi := { dst := some 41, op := Op.move (Operand.tmp 5), type := 23, pos := "outright.go:43", after := #[], guard := none }) (v := ?_) rfl (by kernel_rfl) (by kernel_rfl) (by kernel_rfl) (fun _ _ _ h => h) (Or.inl ⟨by rfl, ?_⟩) hHeld ?_
      rotate_left
      · intro w hSw
        obtain ⟨x0, x1, x2, x3⟩ := hSw
        go_simp
        try with_reducible rfl
      try simp only [Act.put, List.setIfInBounds_toArray, List.set_cons_zero, List.set_cons_succ]
      refine wpAnyH_take (i := 1) (oi := { dst := some 42, op := Op.move (Operand.tmp 0), type := 22, pos := "outright.go:43", after := #[], guard := none }) (v := ?_) rfl (by kernel_rfl) (by kernel_rfl) (by kernel_rfl) (fun _ _ _ h => h) (Or.inl ⟨by rfl, ?_⟩) hHeld ?_
      rotate_left
      · intro w hSw
        obtain ⟨x0, x1, x2, x3⟩ := hSw
        go_simp
        try with_reducible rfl
      try simp only [Act.put, List.setIfInBounds_toArray, List.set_cons_zero, List.set_cons_succ]
      refine wpAnyH_take (i := 2) (oi := { dst := some 43, op := Op.move (Operand.tmp 8), type := 3, pos := "outright.go:43", after := #[], guard := none }) (v := ?_) rfl (by kernel_rfl) (by kernel_rfl) (by kernel_rfl) (fun _ _ _ h => h) (Or.inl ⟨by rfl, ?_⟩) hHeld ?_
      rotate_left
      · intro w hSw
        obtain ⟨x0, x1, x2, x3⟩ := hSw
        go_simp
        try with_reducible rfl
      try simp only [Act.put, List.setIfInBounds_toArray, List.set_cons_zero, List.set_cons_succ]
      refine wpAnyH_take (i := 3) (oi := { dst := some 44, op := Op.indexAddr 22 (Operand.tmp 42) (Operand.tmp 43), type := 0, pos := "outright.go:43", after := #[{ on := 1, ground := Ground.data }, { on := 2, ground := Ground.data }], guard := none }) (v := ?_) rfl (by kernel_rfl) (by kernel_rfl) (by kernel_rfl) (fun _ _ _ h => h) (Or.inl ⟨by rfl, ?_⟩) hHeld ?_
      rotate_left
      · intro w hSw
        obtain ⟨x0, x1, x2, x3⟩ := hSw
        go_simp
        try with_reducible rfl
      try simp only [Act.put, List.setIfInBounds_toArray, List.set_cons_zero, List.set_cons_succ]
      refine wpAnyH_take (i := 4) (oi := { dst := some 45, op := Op.load 65 (Operand.tmp 44), type := 65, pos := "outright.go:43", after := #[{ on := 3, ground := Ground.data }], guard := none }) (v := ?_) rfl (by kernel_rfl) (by kernel_rfl) (by kernel_rfl) (fun _ _ _ h => h) (Or.inl ⟨by rfl, ?_⟩) hHeld ?_
      rotate_left
      · intro w hSw
        obtain ⟨x0, x1, x2, x3⟩ := hSw
        go_simp
        try with_reducible rfl
      try simp only [Act.put, List.setIfInBounds_toArray, List.set_cons_zero, List.set_cons_succ]
      refine wpAnyH_take (i := 6) (oi := { dst := some 47, op := Op.move (Operand.tmp 0), type := 22, pos := "outright.go:43", after := #[], guard := none }) (v := ?_) rfl (by kernel_rfl) (by kernel_rfl) (by kernel_rfl) (fun _ _ _ h => h) (Or.inl ⟨by rfl, ?_⟩) hHeld ?_
      rotate_left
      · intro w hSw
        obtain ⟨x0, x1, x2, x3⟩ := hSw
        go_simp
        try with_reducible rfl
      try simp only [Act.put, List.setIfInBounds_toArray, List.set_cons_zero, List.set_cons_succ]
      refine wpAnyH_take (i := 7) (oi := { dst := some 48, op := Op.move (Operand.tmp 8), type := 3, pos := "outright.go:43", after := #[], guard := none }) (v := ?_) rfl (by kernel_rfl) (by kernel_rfl) (by kernel_rfl) (fun _ _ _ h => h) (Or.inl ⟨by rfl, ?_⟩) hHeld ?_
      rotate_left
      · intro w hSw
        obtain ⟨x0, x1, x2, x3⟩ := hSw
        go_simp
        try with_reducible rfl
      try simp only [Act.put, List.setIfInBounds_toArray, List.set_cons_zero, List.set_cons_succ]
      refine wpAnyH_take (i := 8) (oi := { dst := some 49, op := Op.indexAddr 22 (Operand.tmp 47) (Operand.tmp 48), type := 0, pos := "outright.go:43", after := #[{ on := 6, ground := Ground.data }, { on := 7, ground := Ground.data }], guard := none }) (v := ?_) rfl (by kernel_rfl) (by kernel_rfl) (by kernel_rfl) (fun _ _ _ h => h) (Or.inl ⟨by rfl, ?_⟩) hHeld ?_
      rotate_left
      · intro w hSw
        obtain ⟨x0, x1, x2, x3⟩ := hSw
        go_simp
        try with_reducible rfl
      try simp only [Act.put, List.setIfInBounds_toArray, List.set_cons_zero, List.set_cons_succ]
      refine wpAnyH_take (i := 9) (oi := { dst := some 50, op := Op.fieldAddr 65 (Operand.tmp 49) 3, type := 0, pos := "outright.go:43", after := #[{ on := 8, ground := Ground.data }], guard := none }) (v := ?_) rfl (by kernel_rfl) (by kernel_rfl) (by kernel_rfl) (fun _ _ _ h => h) (Or.inl ⟨by rfl, ?_⟩) hHeld ?_
      rotate_left
      · intro w hSw
        obtain ⟨x0, x1, x2, x3⟩ := hSw
        go_simp
        try with_reducible rfl
      try simp only [Act.put, List.setIfInBounds_toArray, List.set_cons_zero, List.set_cons_succ]
      refine wpAnyH_take (i := 10) (oi := { dst := some 51, op := Op.load 5 (Operand.tmp 50), type := 5, pos := "outright.go:43", after := #[{ on := 9, ground := Ground.data }], guard := none }) (v := ?_) rfl (by kernel_rfl) (by kernel_rfl) (by kernel_rfl) (fun _ _ _ h => h) (Or.inl ⟨by rfl, ?_⟩) hHeld ?_
      rotate_left
      · intro w hSw
        obtain ⟨x0, x1, x2, x3⟩ := hSw
        go_simp
        try with_reducible rfl
      try simp only [Act.put, List.setIfInBounds_toArray, List.set_cons_zero, List.set_cons_succ]
      refine wpAnyH_take (i := 11) (oi := { dst := some 52, op := Op.convert 5 27 (Operand.tmp 51), type := 27, pos := "outright.go:43", after := #[{ on := 10, ground := Ground.data }], guard := none }) (v := ?_) rfl (by kernel_rfl) (by kernel_rfl) (by kernel_rfl) (fun _ _ _ h => h) (Or.inl ⟨by rfl, ?_⟩) hHeld ?_
      rotate_left
      · intro w hSw
        obtain ⟨x0, x1, x2, x3⟩ := hSw
        go_simp
        try with_reducible rfl
      try simp only [Act.put, List.setIfInBounds_toArray, List.set_cons_zero, List.set_cons_succ]
      refine wpAnyH_ready (rs := [5]) (by kernel_rfl) (by simp) ?_
      refine AllReadyH.cons (o := { dst := some 46, op := Op.call { callee := Callee.value (Operand.func 26), args := #[Operand.tmp 45], argTypes := #[65] }, type := 30, pos := "outright.go:43", after := #[{ on := 4, ground := Ground.data }], guard := none }) rfl (fun K hK => ?_) AllReadyH.nil
      go_simp
      refine (of_any s hs _).mono ?_
      rintro e w9 ⟨rfl, hb9⟩
      go_wp2_with fail
      refine hK.out _ _ (SetAt.below hHeld hb9 hbw) (fun hHeld => ?_)
      clear hK K
      try simp only [Act.put, List.setIfInBounds_toArray, List.set_cons_zero, List.set_cons_succ]
      refine wpAnyH_ready (rs := [12]) (by kernel_rfl) (by simp) ?_
      refine AllReadyH.cons (o := { dst := some 53, op := Op.call { callee := Callee.value (Operand.func 18), args := #[Operand.tmp 41, Operand.tmp 46, Operand.tmp 52], argTypes := #[23, 30, 27] }, type := 46, pos := "outright.go:43", after := #[{ on := 0, ground := Ground.data }, { on := 5, ground := Ground.data }, { on := 11, ground := Ground.data }, { on := 5, ground := Ground.chain }], guard := none }) rfl (fun K hK => ?_) AllReadyH.nil
      go_simp
      refine (arm_put _ _ _ _ _ _ (((HW).out.drew 1).below hb9 (Nat.le_refl _)) (set_ok hs) (set_may hs) (set_at hs) (Or.inr HSL.out)).mono ?_
      rintro e w10 ⟨rfl, S2, hW10, hp10, hl10, hg10⟩
      go_wp2_with fail
      refine hK.out _ _ (SetAt.grownX hHeld hg10 (by have h7 : wr.heap.size ≤ w9.heap.size := hb9.size; omega) (by omega)) (fun hHeld => ?_)
      clear hK K
      try simp only [Act.put, List.setIfInBounds_toArray, List.set_cons_zero, List.set_cons_succ]
      refine wpAnyH_done (by kernel_rfl) ?_ _
      clear hwr
      go_wp2_with fail
      have hstep := fill_step (X := X) HX.out
      exact ⟨⟨j + 1, S2, by omega, by go_num, by omega, hW10, hp10.trans ((put_perm _ HP.out).trans (hstep)), (hg10.below ((below_drewN HB.out 1).trans (hb9.mono HB.out.size)) (fun i hi => by omega) (by have h7 : wr.heap.size ≤ w9.heap.size := hb9.size; omega))⟩, by simp [intOf]; omega⟩
    · obtain rfl : j = N := by omega
      go_wp2_with fail
      go_ret
      exact ⟨_, _, S, rfl, HW.out, by rw [HS.out.xl, ← hNN.out]; exact HP.out, by omega, by omega, HB.out⟩
set_option maxRecDepth 100000 in
set_option maxHeartbeats 8000000 in
theorem filled_yes (A : Option Addr) (len cap : Nat) (X : List SetV) (w : World) (h : SetsIn w A len cap X) :
    Calls Try.prog 7 #[.slice A len cap, .bool true] w (FillPost w X) := by
  have hm1 := h.cap1
  have hm2 := h.cap2
  have hXl : len ≤ X.length := by rw [h.xl]; exact Nat.le_refl _
  unfold maxLen at hm2
  obtain ⟨N, hN, hN1, hN2⟩ : ∃ N : Nat, min (len : Int) 60 = (N : Int) ∧ N ≤ len ∧ N ≤ 60 := ⟨min len 60, by omega, by omega, by omega⟩
  have hNN : Hid (N = min len 60) := by show _ = _; omega
  have HS := Lib.hid h
  clear h
  go_enter Try.func7, Try.ntmps7
  go_wp2_with fail
  refine (wnew_any _).mono ?_
  rintro e w1 ⟨rfl, hW, hb, hz⟩
  have HW0 := Lib.hid hW
  have HB0 := Lib.hid hb
  clear hW hb hz
  go_wp2_with fail
  clear hN
  go_loopw [7] (fun x wr => ∃ (j k : Nat) (S : List Tm), (j + k ≤ N ∧ N ≤ j + k) ∧ x = .int .i64 j ∧ S.length ≤ j ∧ Hid (WheelAt wr (w.heap.size + 1) w.heap.size S) ∧ Hid (S.Perm (fillT (((X.take N).drop k).map SetV.tm))) ∧ Hid (Below w.heap.size w wr)) (fun x _ => N + 1 - (intOf x).toNat)
  case atStart => exact ⟨0, N, [], ⟨by omega, by omega⟩, rfl, by simp, HW0.out, by show List.Perm _ _; simp [fillT], HB0.out⟩
  case round =>
    obtain ⟨j, k, S, hj, rfl, hSl, HW, HP, HB⟩ := hrel
    clear HW0 HB0
    by_cases hlt : j < N
    · obtain ⟨k, rfl⟩ : ∃ k', k = k' + 1 := ⟨k - 1, by omega⟩
      obtain ⟨s, hs1⟩ : ∃ s, X[k]? = some s := ⟨X[k], List.getElem?_eq_getElem (by omega)⟩
      obtain ⟨bb, off, hA, hbl, hs, hat⟩ := HS.out.at_ _ _ hs1
      subst hA
      have HSAT := Lib.hid hat
      have HX := Lib.hid hs1
      have HBLT := Lib.hid hbl
      have hbz := HB.out.size
      clear hat hs1
      have hk : (N : Int) - 1 - (j : Int) = (k : Int) := by omega
      have hkl : k < len := by omega
      obtain ⟨x0, x1, x2, x3⟩ := HSAT.out.below HB.out hbl
      go_wp2_with fail
      refine (of_any s hs _).mono ?_
      rintro e w2 ⟨rfl, hb⟩
      have HW2 := Lib.hid (HW.out.below hb (Nat.le_refl _))
      have HB2 := Lib.hid (HB.out.trans (hb.mono HB.out.size))
      have hb2z := HB2.out.size
      clear hb x0 x1 x2 x3 HW HB
      go_wp2_with fail
      have HDR : Hid ((X.take N).drop k = s :: (X.take N).drop (k + 1)) := by
        show _ = _
        have h1 : (X.take N)[k]? = some s := by rw [List.getElem?_take, if_pos (by omega)]; exact HX.out
        obtain ⟨h2, h3⟩ := List.getElem?_eq_some_iff.1 h1
        rw [List.drop_eq_getElem_cons h2, h3]
      by_cases hin : ∃ p ∈ S, p.k = s.tm.k
      · obtain ⟨p, hp, hpk⟩ := hin
        obtain ⟨i, hi⟩ := List.getElem?_of_mem hp
        have hcon := wat_some _ _ _ i S p HW2.out hi
        rw [hpk] at hcon
        have HC := Lib.hid hcon
        have HIN : Hid (∃ p ∈ fillT (((X.take N).drop (k + 1)).map SetV.tm), p.k = s.tm.k) := ⟨p, HP.out.mem_iff.1 hp, hpk⟩
        clear hp hpk hi hcon
        refine HC.out.mono ?_
        rintro e w3 ⟨rfl, hb⟩
        have HW3 := Lib.hid (HW2.out.below hb (Nat.le_refl _))
        have HB3 := Lib.hid (HB2.out.trans (hb.mono HB2.out.size))
        clear hb HW2 HB2 HC
        go_wp2_with fail
        refine ⟨⟨j + 1, k, S, ⟨by omega, by omega⟩, by go_num, by omega, HW3.out, ?_, HB3.out⟩, by simp [intOf]; omega⟩
        rw [HDR.out, List.map_cons, fillT_in HIN.out]
        exact HP.out
      · have hno : ∀ p ∈ S, p.k ≠ s.tm.k := fun p hp e => hin ⟨p, hp, e⟩
        have HNO := Lib.hid hno
        clear hin hno
        refine (wat_none _ _ _ S s.tm.k HW2.out (set_ok hs) HNO.out).mono ?_
        rintro e w3 ⟨rfl, hb⟩
        have HW3 := Lib.hid (HW2.out.below hb (Nat.le_refl _))
        have HB3 := Lib.hid (HB2.out.trans (hb.mono HB2.out.size))
        have hb3z := HB3.out.size
        have hbw : bb < w3.heap.size := by omega
        have HSL : Hid (S.length < 1024) := by show _ < _; omega
        clear hb HW2 HB2
        obtain ⟨x0, x1, x2, x3⟩ := HSAT.out.below HB3.out hbl
        go_wp2_with fail
        clear x0 x1 x2 x3
        have hdd : SetAt w3.drew bb (off + k * 4) s := HSAT.out.below (below_drewN HB3.out 1) hbl
        have hwr : IntKind.u64.wrap (s.at_ : Int) = (s.at_ : Int) := by have := hs.at_; simp [IntKind.wrap, IntKind.bits, IntKind.signed]; omega
        refine wp_region_held_drew (S := fun w' => SetAt w' bb (off + k * 4) s) (by kernel_rfl) (hdd) (fun hHeld => ?_)
        refine wpAnyH_take (i := 0) (oi := { dst := some 41, op := Op.move (Operand.tmp 5), type := 23, pos := "outright.go:43", after := #[], guard := none }) (v := ?_) rfl (by kernel_rfl) (by kernel_rfl) (by kernel_rfl) (fun _ _ _ h => h) (Or.inl ⟨by rfl, ?_⟩) hHeld ?_
        rotate_left
        · intro w hSw
          obtain ⟨x0, x1, x2, x3⟩ := hSw
          go_simp
          try with_reducible rfl
        try simp only [Act.put, List.setIfInBounds_toArray, List.set_cons_zero, List.set_cons_succ]
        refine wpAnyH_take (i := 1) (oi := { dst := some 42, op := Op.move (Operand.tmp 0), type := 22, pos := "outright.go:43", after := #[], guard := none }) (v := ?_) rfl (by kernel_rfl) (by kernel_rfl) (by kernel_rfl) (fun _ _ _ h => h) (Or.inl ⟨by rfl, ?_⟩) hHeld ?_
        rotate_left
        · intro w hSw
          obtain ⟨x0, x1, x2, x3⟩ := hSw
          go_simp
          try with_reducible rfl
        try simp only [Act.put, List.setIfInBounds_toArray, List.set_cons_zero, List.set_cons_succ]
        refine wpAnyH_take (i := 2) (oi := { dst := some 43, op := Op.move (Operand.tmp 8), type := 3, pos := "outright.go:43", after := #[], guard := none }) (v := ?_) rfl (by kernel_rfl) (by kernel_rfl) (by kernel_rfl) (fun _ _ _ h => h) (Or.inl ⟨by rfl, ?_⟩) hHeld ?_
        rotate_left
        · intro w hSw
          obtain ⟨x0, x1, x2, x3⟩ := hSw
          go_simp
          try with_reducible rfl
        try simp only [Act.put, List.setIfInBounds_toArray, List.set_cons_zero, List.set_cons_succ]
        refine wpAnyH_take (i := 3) (oi := { dst := some 44, op := Op.indexAddr 22 (Operand.tmp 42) (Operand.tmp 43), type := 0, pos := "outright.go:43", after := #[{ on := 1, ground := Ground.data }, { on := 2, ground := Ground.data }], guard := none }) (v := ?_) rfl (by kernel_rfl) (by kernel_rfl) (by kernel_rfl) (fun _ _ _ h => h) (Or.inl ⟨by rfl, ?_⟩) hHeld ?_
        rotate_left
        · intro w hSw
          obtain ⟨x0, x1, x2, x3⟩ := hSw
          go_simp
          try with_reducible rfl
        try simp only [Act.put, List.setIfInBounds_toArray, List.set_cons_zero, List.set_cons_succ]
        refine wpAnyH_take (i := 4) (oi := { dst := some 45, op := Op.load 65 (Operand.tmp 44), type := 65, pos := "outright.go:43", after := #[{ on := 3, ground := Ground.data }], guard := none }) (v := ?_) rfl (by kernel_rfl) (by kernel_rfl) (by kernel_rfl) (fun _ _ _ h => h) (Or.inl ⟨by rfl, ?_⟩) hHeld ?_
        rotate_left
        · intro w hSw
          obtain ⟨x0, x1, x2, x3⟩ := hSw
          go_simp
          try with_reducible rfl
        try simp only [Act.put, List.setIfInBounds_toArray, List.set_cons_zero, List.set_cons_succ]
        refine wpAnyH_take (i := 6) (oi := { dst := some 47, op := Op.move (Operand.tmp 0), type := 22, pos := "outright.go:43", after := #[], guard := none }) (v := ?_) rfl (by kernel_rfl) (by kernel_rfl) (by kernel_rfl) (fun _ _ _ h => h) (Or.inl ⟨by rfl, ?_⟩) hHeld ?_
        rotate_left
        · intro w hSw
          obtain ⟨x0, x1, x2, x3⟩ := hSw
          go_simp
          try with_reducible rfl
        try simp only [Act.put, List.setIfInBounds_toArray, List.set_cons_zero, List.set_cons_succ]
        refine wpAnyH_take (i := 7) (oi := { dst := some 48, op := Op.move (Operand.tmp 8), type := 3, pos := "outright.go:43", after := #[], guard := none }) (v := ?_) rfl (by kernel_rfl) (by kernel_rfl) (by kernel_rfl) (fun _ _ _ h => h) (Or.inl ⟨by rfl, ?_⟩) hHeld ?_
        rotate_left
        · intro w hSw
          obtain ⟨x0, x1, x2, x3⟩ := hSw
          go_simp
          try with_reducible rfl
        try simp only [Act.put, List.setIfInBounds_toArray, List.set_cons_zero, List.set_cons_succ]
        refine wpAnyH_take (i := 8) (oi := { dst := some 49, op := Op.indexAddr 22 (Operand.tmp 47) (Operand.tmp 48), type := 0, pos := "outright.go:43", after := #[{ on := 6, ground := Ground.data }, { on := 7, ground := Ground.data }], guard := none }) (v := ?_) rfl (by kernel_rfl) (by kernel_rfl) (by kernel_rfl) (fun _ _ _ h => h) (Or.inl ⟨by rfl, ?_⟩) hHeld ?_
        rotate_left
        · intro w hSw
          obtain ⟨x0, x1, x2, x3⟩ := hSw
          go_simp
          try with_reducible rfl
        try simp only [Act.put, List.setIfInBounds_toArray, List.set_cons_zero, List.set_cons_succ]
        refine wpAnyH_take (i := 9) (oi := { dst := some 50, op := Op.fieldAddr 65 (Operand.tmp 49) 3, type := 0, pos := "outright.go:43", after := #[{ on := 8, ground := Ground.data }], guard := none }) (v := ?_) rfl (by kernel_rfl) (by kernel_rfl) (by kernel_rfl) (fun _ _ _ h => h) (Or.inl ⟨by rfl, ?_⟩) hHeld ?_
        rotate_left
        · intro w hSw
          obtain ⟨x0, x1, x2, x3⟩ := hSw
          go_simp
          try with_reducible rfl
        try simp only [Act.put, List.setIfInBounds_toArray, List.set_cons_zero, List.set_cons_succ]
        refine wpAnyH_take (i := 10) (oi := { dst := some 51, op := Op.load 5 (Operand.tmp 50), type := 5, pos := "outright.go:43", after := #[{ on := 9, ground := Ground.data }], guard := none }) (v := ?_) rfl (by kernel_rfl) (by kernel_rfl) (by kernel_rfl) (fun _ _ _ h => h) (Or.inl ⟨by rfl, ?_⟩) hHeld ?_
        rotate_left
        · intro w hSw
          obtain ⟨x0, x1, x2, x3⟩ := hSw
          go_simp
          try with_reducible rfl
        try simp only [Act.put, List.setIfInBounds_toArray, List.set_cons_zero, List.set_cons_succ]
        refine wpAnyH_take (i := 11) (oi := { dst := some 52, op := Op.convert 5 27 (Operand.tmp 51), type := 27, pos := "outright.go:43", after := #[{ on := 10, ground := Ground.data }], guard := none }) (v := ?_) rfl (by kernel_rfl) (by kernel_rfl) (by kernel_rfl) (fun _ _ _ h => h) (Or.inl ⟨by rfl, ?_⟩) hHeld ?_
        rotate_left
        · intro w hSw
          obtain ⟨x0, x1, x2, x3⟩ := hSw
          go_simp
          try with_reducible rfl
        try simp only [Act.put, List.setIfInBounds_toArray, List.set_cons_zero, List.set_cons_succ]
        refine wpAnyH_ready (rs := [5]) (by kernel_rfl) (by simp) ?_
        refine AllReadyH.cons (o := { dst := some 46, op := Op.call { callee := Callee.value (Operand.func 26), args := #[Operand.tmp 45], argTypes := #[65] }, type := 30, pos := "outright.go:43", after := #[{ on := 4, ground := Ground.data }], guard := none }) rfl (fun K hK => ?_) AllReadyH.nil
        go_simp
        refine (of_any s hs _).mono ?_
        rintro e w9 ⟨rfl, hb9⟩
        go_wp2_with fail
        refine hK.out _ _ (SetAt.below hHeld hb9 hbw) (fun hHeld => ?_)
        clear hK K
        try simp only [Act.put, List.setIfInBounds_toArray, List.set_cons_zero, List.set_cons_succ]
        refine wpAnyH_ready (rs := [12]) (by kernel_rfl) (by simp) ?_
        refine AllReadyH.cons (o := { dst := some 53, op := Op.call { callee := Callee.value (Operand.func 18), args := #[Operand.tmp 41, Operand.tmp 46, Operand.tmp 52], argTypes := #[23, 30, 27] }, type := 46, pos := "outright.go:43", after := #[{ on := 0, ground := Ground.data }, { on := 5, ground := Ground.data }, { on := 11, ground := Ground.data }, { on := 5, ground := Ground.chain }], guard := none }) rfl (fun K hK => ?_) AllReadyH.nil
        go_simp
        refine (arm_put _ _ _ _ _ _ (((HW3).out.drew 1).below hb9 (Nat.le_refl _)) (set_ok hs) (set_may hs) (set_at hs) (Or.inr HSL.out)).mono ?_
        rintro e w10 ⟨rfl, S2, hW10, hp10, hl10, hg10⟩
        go_wp2_with fail
        refine hK.out _ _ (SetAt.grownX hHeld hg10 (by have h7 : w3.heap.size ≤ w9.heap.size := hb9.size; omega) (by omega)) (fun hHeld => ?_)
        clear hK K
        try simp only [Act.put, List.setIfInBounds_toArray, List.set_cons_zero, List.set_cons_succ]
        refine wpAnyH_done (by kernel_rfl) ?_ _
        clear hwr
        go_wp2_with fail
        refine ⟨⟨j + 1, k, S2, ⟨by omega, by omega⟩, by go_num, by omega, hW10, ?_, (hg10.below ((below_drewN HB3.out 1).trans (hb9.mono HB3.out.size)) (fun i hi => by omega) (by have h7 : w3.heap.size ≤ w9.heap.size := hb9.size; omega))⟩, by simp [intOf]; omega⟩
        have hno2 : ∀ p ∈ fillT (((X.take N).drop (k + 1)).map SetV.tm), p.k ≠ s.tm.k := fun p hp => HNO.out p (HP.out.mem_iff.2 hp)
        rw [HDR.out, List.map_cons, fillT_out hno2]
        refine hp10.trans ?_
        rw [putT_no HNO.out]
        exact HP.out.append_right _
    · obtain rfl : j = N := by omega
      obtain rfl : k = 0 := by omega
      go_wp2_with fail
      go_ret
      exact ⟨_, _, S, rfl, HW.out, by have := HP.out; rw [List.drop_zero] at this; rw [HS.out.xl, ← hNN.out]; exact this, by omega, by omega, HB.out⟩
end Go.Proofs.Ytcgegaahdbnacaa
