/-
  Several texts in one.
-/
import Derived.Test.YtkcojblflebomaaGreatNR36
import Derived.BigRegion
set_option linter.unusedVariables false
set_option linter.unusedSimpArgs false
namespace Go.Proofs.YtkcojblflebomaaGreat
open Go.RowKit Go.MapKept Go.Shelf
open Go.Lib hiding intOf
open Go.Sort hiding Below

theorem ltL_irrefl (a : Lg) : ltL a a = false := by rw [ltL_not]; omega
theorem own_lg2 {w : World} {base b o m c i : Nat} {S : List Lg} {x : Lg} (h : OwnL w base 59 3 Lg.cs (.slice (some ⟨b, o, none⟩) m c) S) (hi : S[i]? = some x) : w.cell? ⟨b, o + i * 3, none⟩ = some (.int .u32 (x.g : Nat)) ∧ w.cell? ⟨b, o + i * 3 + 1, none⟩ = some (.int .u32 (x.a : Nat)) ∧ w.cell? ⟨b, o + i * 3 + 2, none⟩ = some (.int .u32 (x.b : Nat)) := by
  obtain ⟨b2, o2, hA, _, hc⟩ := (rd_of Lg.cs_len h).1.at_ (i := i) (cs := x.cs) (by rw [List.getElem?_map, hi]; rfl)
  simp only [Option.some.injEq, Addr.mk.injEq, and_true] at hA
  obtain ⟨rfl, rfl⟩ := hA
  exact ⟨hc 0 _ rfl, hc 1 _ rfl, hc 2 _ rfl⟩
set_option maxRecDepth 100000 in
set_option maxHeartbeats 16000000 in
theorem larges_any (A : Option Addr) (l : List Nat) (L : List Lg) (cap : Nat) (w : World) (h : Rd w A 1 (l.map x1)) (hl : l.length ≤ cap) (hc : cap ≤ 9223372036854775807) (hm : l.length ≤ 1048576) (hL : l.length = 3 * L.length) (hx : ∀ k x, L[k]? = some x → l[3 * k]? = some x.g ∧ l[3 * k + 1]? = some x.a ∧ l[3 * k + 2]? = some x.b) (hf : ∀ n ∈ l, n < 4294967296) :
    Calls Tryz.prog 122 #[.slice A l.length cap] w fun e w' => (∃ v, e = .returned v ∧ OwnL w' w.heap.size 59 3 Lg.cs v (insAll ltL [] L)) ∧ Below w.heap.size w w' := by
  have HR := Lib.hid h
  have HXS := Lib.hid hx
  have HF := Lib.hid hf
  have HLL := Lib.hid lless_any
  obtain ⟨n, hn⟩ : ∃ n, n = L.length := ⟨_, rfl⟩
  have HN := Lib.hid hn
  obtain ⟨n3, hn3⟩ : ∃ n3, n3 = l.length := ⟨_, rfl⟩
  rw [← hn3] at hl hm hL ⊢
  rw [← hn] at hL
  have HN3 : Hid (n3 = 3 * n) := hL
  have hmn : n ≤ 1048576 := by omega
  clear h hn hx hf hn3 hL
  go_enter Tryz.func122, Tryz.ntmps122
  go_wp2_with fail
  go_loopw [4, 3, 5, 6, 7] (fun i ov _ _ _ wr => ∃ (k : Nat) (B : Option Addr) (m c : Nat), i = .int .i64 (3 * k : Nat) ∧ ov = .slice B m c ∧ k ≤ n ∧ m ≤ k ∧ Hid (OwnL wr w.heap.size 59 3 Lg.cs (.slice B m c) (insAll ltL [] (L.take k))) ∧ Hid (Below w.heap.size w wr)) (fun i _ _ _ _ _ => n3 + 3 - (intOf i).toNat)
  case atStart => exact ⟨0, none, 0, 0, rfl, rfl, by omega, by omega, OwnL.nil _ _ _ _ _, Below.refl _ _⟩
  case round =>
    obtain ⟨k, B, m, c, rfl, rfl, hk, hmk, HO, HB⟩ := hrel
    by_cases hlt : k < n
    · obtain ⟨x, hx⟩ : ∃ x, L[k]? = some x := ⟨L[k]'(by rw [← HN.out]; exact hlt), List.getElem?_eq_getElem _⟩
      have HX := Lib.hid hx
      have HNX : Hid (insAll ltL [] (L.take (k + 1)) = insR ltL x (insAll ltL [] (L.take k))) := by
        show _ = _
        rw [List.take_add_one, hx]
        exact insAll_snoc x _ _
      obtain ⟨S, hS⟩ : ∃ S, S = insAll ltL [] (L.take k) := ⟨_, rfl⟩
      rw [← hS] at HO HNX
      obtain ⟨hr0, hm0, hmc, hcc⟩ := rd_of Lg.cs_len HO.out
      have HM : Hid (m = S.length) := hm0
      have hc63 : c ≤ 9223372036854775807 := hcc
      obtain ⟨e0, e1, e2⟩ := HXS.out k x hx
      have f0 := HF.out _ (List.mem_of_getElem? e0)
      have f1 := HF.out _ (List.mem_of_getElem? e1)
      have f2 := HF.out _ (List.mem_of_getElem? e2)
      obtain ⟨b0, o0, rfl, hb0, p0⟩ := u64_at (HR.out.below HB.out (Nat.le_refl _)) e0
      have p1 := u64_here (HR.out.below HB.out (Nat.le_refl _)) e1
      have p2 := u64_here (HR.out.below HB.out (Nat.le_refl _)) e2
      have z0 : IntKind.u32.wrap ((x.g : Nat) : Int) = ((x.g : Nat) : Int) := by rw [IntKind.wrap_u32]; omega
      have z1 : IntKind.u32.wrap ((x.a : Nat) : Int) = ((x.a : Nat) : Int) := by rw [IntKind.wrap_u32]; omega
      have z2 : IntKind.u32.wrap ((x.b : Nat) : Int) = ((x.b : Nat) : Int) := by rw [IntKind.wrap_u32]; omega
      have hlt3 : ((3 * k : Nat) : Int) + 2 < (n3 : Int) := by have := HN3.out; omega
      have hlt31 : ((3 * k : Nat) : Int) + 1 < (n3 : Int) := by omega
      have hlt30 : ((3 * k : Nat) : Int) < (n3 : Int) := by omega
      have HMX := Lib.hid hmn
      obtain ⟨q, hq⟩ : ∃ q, q = 3 * k := ⟨_, rfl⟩
      have HQ := Lib.hid hq
      have hqb : q < n3 := by have h2 := HN3.out; omega
      rw [← hq] at p0 p1 p2 hlt3 hlt31 hlt30 ⊢
      clear hx hS hr0 hm0 hcc e0 e1 e2 f0 f1 f2 hq
      go_upto_region 5 with fail
      go_region
      go_upto_region 6 with fail
      refine wp_name fun X hX => ?_
      obtain ⟨g, hg⟩ : ∃ g, g = wr.heap.size := ⟨_, rfl⟩
      have HXB0 : Hid (CellsAt X g #[.int .u32 (x.g : Nat), .int .u32 (x.a : Nat), .int .u32 (x.b : Nat)] 59) := by rw [hX, hg]; exact (CellsAt.new _ _ _).drew 1
      have HO0 : Hid (OwnL X w.heap.size 59 3 Lg.cs (.slice B m c) S) := by rw [hX]; exact HO.out.alloc _
      have HB0 : Hid (Below w.heap.size w X) := by rw [hX]; exact below_drewN (HB.out.alloc HB.out.size _) 1
      rw [← hg]
      have hgw : w.heap.size ≤ g := by rw [hg]; exact HB.out.size
      clear hX hg HO HB p0 p1 p2 hlt3 hlt31 hlt30 z0 z1 z2
      go_wp2_with fail
      go_loopw [6] (fun j wq => ∃ t : Nat, j = .int .i64 t ∧ t ≤ m ∧ Hid (∀ y ∈ S.take t, ltL y x = true) ∧ Hid (OwnL wq w.heap.size 59 3 Lg.cs (.slice B m c) S) ∧ Hid (CellsAt wq g #[.int .u32 (x.g : Nat), .int .u32 (x.a : Nat), .int .u32 (x.b : Nat)] 59) ∧ Hid (Below w.heap.size w wq)) (fun j _ => m + 1 - (intOf j).toNat)
      case atStart => exact ⟨0, rfl, by omega, (fun y hy => by cases hy), HO0.out, HXB0.out, HB0.out⟩
      case round =>
        clear HO0 HB0 HXB0
        obtain ⟨t, rfl, ht, HLS, HO, HXB, HB⟩ := hrel
        have hsb := HB.out.size
        have HQ2 := HQ.out
        by_cases htm : t < m
        · obtain ⟨y, hy⟩ : ∃ y, S[t]? = some y := ⟨S[t]'(by rw [← HM.out]; exact htm), List.getElem?_eq_getElem _⟩
          have HY := Lib.hid hy
          have HRD := Lib.hid (rd_of Lg.cs_len HO.out).1
          obtain ⟨b1, o1, hBB, hb1, _⟩ := Rd.at_ HRD.out (i := t) (cs := y.cs) (by rw [List.getElem?_map, hy]; rfl)
          subst hBB
          clear hy HRD HQ2
          have HLX : Hid (∀ (r : Bool) (W : World), ltL y x = r → Calls Tryz.prog 66 #[.agg #[.int .u32 y.g, .int .u32 y.a, .int .u32 y.b], .agg #[.int .u32 x.g, .int .u32 x.a, .int .u32 x.b]] W fun e w' => e = .returned (.bool r) ∧ Below W.heap.size W w') := fun r W h => by rw [← h]; exact HLL.out y x W
          cases hr : ltL y x with
          | true =>
            have HRR := Lib.hid hr
            have HL2 : Hid (∀ z ∈ S.take (t + 1), ltL z x = true) := fun z hz => by
              rw [List.take_add_one, HY.out] at hz
              rcases List.mem_append.1 hz with hz | hz
              · exact HLS.out z hz
              · rw [List.mem_singleton.1 hz]; exact hr
            clear hr HLS
            go_upto_region 7 with fail
            refine wp_region_held_drew (S := fun w' => OwnL w' w.heap.size 59 3 Lg.cs (.slice (some ⟨b1, o1, none⟩) m c) S ∧ CellsAt w' g #[.int .u32 (x.g : Nat), .int .u32 (x.a : Nat), .int .u32 (x.b : Nat)] 59 ∧ Below w.heap.size w w') (by kernel_rfl) (⟨HO.out, HXB.out.drew 1, below_drewN HB.out 1⟩) (fun hHeld => ?_)
            refine wpAnyH_take (i := 0) (oi := { dst := some 33, op := Op.move (Operand.tmp 6), type := 3, pos := "ref.go:258", after := #[], guard := none }) (v := ?_) rfl (by kernel_rfl) (by kernel_rfl) (by kernel_rfl) (fun _ _ _ h => h) (Or.inl ⟨by rfl, ?_⟩) hHeld ?_
            rotate_left
            · intro w hSw
              clear hSw
              go_simp
              try with_reducible rfl
            try simp only [Act.put, List.setIfInBounds_toArray, List.set_cons_zero, List.set_cons_succ]
            refine wpAnyH_take (i := 1) (oi := { dst := some 34, op := Op.move (Operand.tmp 3), type := 38, pos := "ref.go:258", after := #[], guard := none }) (v := ?_) rfl (by kernel_rfl) (by kernel_rfl) (by kernel_rfl) (fun _ _ _ h => h) (Or.inl ⟨by rfl, ?_⟩) hHeld ?_
            rotate_left
            · intro w hSw
              clear hSw
              go_simp
              try with_reducible rfl
            try simp only [Act.put, List.setIfInBounds_toArray, List.set_cons_zero, List.set_cons_succ]
            refine wpAnyH_take (i := 2) (oi := { dst := some 35, op := Op.call { callee := Callee.builtin Builtin.len, args := #[Operand.tmp 34], argTypes := #[38] }, type := 3, pos := "ref.go:258", after := #[{ on := 1, ground := Ground.data }], guard := none }) (v := ?_) rfl (by kernel_rfl) (by kernel_rfl) (by kernel_rfl) (fun _ _ _ h => h) (Or.inl ⟨by rfl, ?_⟩) hHeld ?_
            rotate_left
            · intro w hSw
              clear hSw
              go_simp
              try with_reducible rfl
            try simp only [Act.put, List.setIfInBounds_toArray, List.set_cons_zero, List.set_cons_succ]
            refine wpAnyH_take (i := 3) (oi := { dst := some 36, op := Op.binOp BinOp.lss 3 (Operand.tmp 33) (Operand.tmp 35) 3, type := 4, pos := "ref.go:258", after := #[{ on := 0, ground := Ground.data }, { on := 2, ground := Ground.data }], guard := none }) (v := ?_) rfl (by kernel_rfl) (by kernel_rfl) (by kernel_rfl) (fun _ _ _ h => h) (Or.inl ⟨by rfl, ?_⟩) hHeld ?_
            rotate_left
            · intro w hSw
              clear hSw
              go_simp
              try with_reducible rfl
            try simp only [Act.put, List.setIfInBounds_toArray, List.set_cons_zero, List.set_cons_succ]
            refine wpAnyH_take (i := 4) (oi := { dst := some 37, op := Op.move (Operand.tmp 36), type := 4, pos := "ref.go:258", after := #[{ on := 3, ground := Ground.data }], guard := none }) (v := ?_) rfl (by kernel_rfl) (by kernel_rfl) (by kernel_rfl) (fun _ _ _ h => h) (Or.inl ⟨by rfl, ?_⟩) hHeld ?_
            rotate_left
            · intro w hSw
              clear hSw
              go_simp
              try with_reducible rfl
            try simp only [Act.put, List.setIfInBounds_toArray, List.set_cons_zero, List.set_cons_succ]
            refine wpAnyH_take (i := 5) (oi := { dst := some 38, op := Op.move (Operand.tmp 3), type := 38, pos := "ref.go:258", after := #[{ on := 4, ground := Ground.guard }], guard := some (4, true) }) (v := ?_) rfl (by kernel_rfl) (by kernel_rfl) (by kernel_rfl) (fun _ _ _ h => h) (Or.inl ⟨by rfl, ?_⟩) hHeld ?_
            rotate_left
            · intro w hSw
              clear hSw
              go_simp
              try with_reducible rfl
            try simp only [Act.put, List.setIfInBounds_toArray, List.set_cons_zero, List.set_cons_succ]
            refine wpAnyH_take (i := 6) (oi := { dst := some 39, op := Op.move (Operand.tmp 6), type := 3, pos := "ref.go:258", after := #[{ on := 4, ground := Ground.guard }], guard := some (4, true) }) (v := ?_) rfl (by kernel_rfl) (by kernel_rfl) (by kernel_rfl) (fun _ _ _ h => h) (Or.inl ⟨by rfl, ?_⟩) hHeld ?_
            rotate_left
            · intro w hSw
              clear hSw
              go_simp
              try with_reducible rfl
            try simp only [Act.put, List.setIfInBounds_toArray, List.set_cons_zero, List.set_cons_succ]
            refine wpAnyH_take (i := 7) (oi := { dst := some 40, op := Op.indexAddr 38 (Operand.tmp 38) (Operand.tmp 39), type := 0, pos := "ref.go:258", after := #[{ on := 5, ground := Ground.data }, { on := 6, ground := Ground.data }, { on := 4, ground := Ground.guard }], guard := some (4, true) }) (v := ?_) rfl (by kernel_rfl) (by kernel_rfl) (by kernel_rfl) (fun _ _ _ h => h) (Or.inl ⟨by rfl, ?_⟩) hHeld ?_
            rotate_left
            · intro w hSw
              clear hSw
              go_simp
              try with_reducible rfl
            try simp only [Act.put, List.setIfInBounds_toArray, List.set_cons_zero, List.set_cons_succ]
            refine wpAnyH_take (i := 8) (oi := { dst := some 41, op := Op.load 59 (Operand.tmp 40), type := 59, pos := "ref.go:258", after := #[{ on := 7, ground := Ground.data }, { on := 4, ground := Ground.guard }], guard := some (4, true) }) (v := ?_) rfl (by kernel_rfl) (by kernel_rfl) (by kernel_rfl) (fun _ _ _ h => h) (Or.inl ⟨by rfl, ?_⟩) hHeld ?_
            rotate_left
            · intro w hSw
              have hq := own_lg2 hSw.1 HY.out
              obtain ⟨q0, q1, q2⟩ := hq
              obtain ⟨p0, p1, p2⟩ := CellsAt.c3 hSw.2.1
              clear hSw
              go_simp
              try with_reducible rfl
            try simp only [Act.put, List.setIfInBounds_toArray, List.set_cons_zero, List.set_cons_succ]
            refine wpAnyH_take (i := 9) (oi := { dst := some 42, op := Op.load 59 (Operand.tmp 5), type := 59, pos := "ref.go:258", after := #[{ on := 4, ground := Ground.guard }], guard := some (4, true) }) (v := ?_) rfl (by kernel_rfl) (by kernel_rfl) (by kernel_rfl) (fun _ _ _ h => h) (Or.inl ⟨by rfl, ?_⟩) hHeld ?_
            rotate_left
            · intro w hSw
              have hq := own_lg2 hSw.1 HY.out
              obtain ⟨q0, q1, q2⟩ := hq
              obtain ⟨p0, p1, p2⟩ := CellsAt.c3 hSw.2.1
              clear hSw
              go_simp
              try with_reducible rfl
            try simp only [Act.put, List.setIfInBounds_toArray, List.set_cons_zero, List.set_cons_succ]
            refine wpAnyH_ready (rs := [10]) (by kernel_rfl) (by simp) ?_
            refine AllReadyH.cons (o := { dst := some 43, op := Op.call { callee := Callee.value (Operand.func 66), args := #[Operand.tmp 41, Operand.tmp 42], argTypes := #[59, 59] }, type := 4, pos := "ref.go:258", after := #[{ on := 8, ground := Ground.data }, { on := 9, ground := Ground.data }, { on := 4, ground := Ground.chain }, { on := 4, ground := Ground.guard }], guard := some (4, true) }) rfl (fun K hK => ?_) AllReadyH.nil
            go_simp
            refine (HLX.out true _ HRR.out).mono ?_
            rintro e wz ⟨rfl, hbz⟩
            have HSz := Lib.hid hHeld
            refine hK.out _ _ (⟨OwnL.below HSz.out.1 hbz (Nat.le_refl _), HSz.out.2.1.below hbz HSz.out.2.1.lt, HSz.out.2.2.trans (hbz.mono HSz.out.2.2.size)⟩) (fun hHeld => ?_)
            clear hK K
            try simp only [Act.put, List.setIfInBounds_toArray, List.set_cons_zero, List.set_cons_succ]
            refine wpAnyH_take (i := 11) (oi := { dst := some 44, op := Op.pick (Operand.tmp 37) (Operand.tmp 43) (Operand.const (Value.bool false)), type := 4, pos := "ref.go:258", after := #[{ on := 4, ground := Ground.data }, { on := 10, ground := Ground.data }], guard := none }) (v := ?_) rfl (by kernel_rfl) (by kernel_rfl) (by kernel_rfl) (fun _ _ _ h => h) (Or.inl ⟨by rfl, ?_⟩) hHeld ?_
            rotate_left
            · intro w hSw
              clear hSw
              go_simp
              try with_reducible rfl
            try simp only [Act.put, List.setIfInBounds_toArray, List.set_cons_zero, List.set_cons_succ]
            refine wpAnyH_done (by kernel_rfl) ?_ _
            have HE := Lib.hid hHeld
            clear hHeld
            go_wp2_with fail
            exact ⟨⟨t + 1, by go_num, by omega, HL2.out, HE.out.1, HE.out.2.1, HE.out.2.2⟩, by simp [intOf]; omega⟩
          | false =>
            have HRR := Lib.hid hr
            clear hr
            go_upto_region 7 with fail
            refine wp_region_held_drew (S := fun w' => OwnL w' w.heap.size 59 3 Lg.cs (.slice (some ⟨b1, o1, none⟩) m c) S ∧ CellsAt w' g #[.int .u32 (x.g : Nat), .int .u32 (x.a : Nat), .int .u32 (x.b : Nat)] 59 ∧ Below w.heap.size w w') (by kernel_rfl) (⟨HO.out, HXB.out.drew 1, below_drewN HB.out 1⟩) (fun hHeld => ?_)
            refine wpAnyH_take (i := 0) (oi := { dst := some 33, op := Op.move (Operand.tmp 6), type := 3, pos := "ref.go:258", after := #[], guard := none }) (v := ?_) rfl (by kernel_rfl) (by kernel_rfl) (by kernel_rfl) (fun _ _ _ h => h) (Or.inl ⟨by rfl, ?_⟩) hHeld ?_
            rotate_left
            · intro w hSw
              clear hSw
              go_simp
              try with_reducible rfl
            try simp only [Act.put, List.setIfInBounds_toArray, List.set_cons_zero, List.set_cons_succ]
            refine wpAnyH_take (i := 1) (oi := { dst := some 34, op := Op.move (Operand.tmp 3), type := 38, pos := "ref.go:258", after := #[], guard := none }) (v := ?_) rfl (by kernel_rfl) (by kernel_rfl) (by kernel_rfl) (fun _ _ _ h => h) (Or.inl ⟨by rfl, ?_⟩) hHeld ?_
            rotate_left
            · intro w hSw
              clear hSw
              go_simp
              try with_reducible rfl
            try simp only [Act.put, List.setIfInBounds_toArray, List.set_cons_zero, List.set_cons_succ]
            refine wpAnyH_take (i := 2) (oi := { dst := some 35, op := Op.call { callee := Callee.builtin Builtin.len, args := #[Operand.tmp 34], argTypes := #[38] }, type := 3, pos := "ref.go:258", after := #[{ on := 1, ground := Ground.data }], guard := none }) (v := ?_) rfl (by kernel_rfl) (by kernel_rfl) (by kernel_rfl) (fun _ _ _ h => h) (Or.inl ⟨by rfl, ?_⟩) hHeld ?_
            rotate_left
            · intro w hSw
              clear hSw
              go_simp
              try with_reducible rfl
            try simp only [Act.put, List.setIfInBounds_toArray, List.set_cons_zero, List.set_cons_succ]
            refine wpAnyH_take (i := 3) (oi := { dst := some 36, op := Op.binOp BinOp.lss 3 (Operand.tmp 33) (Operand.tmp 35) 3, type := 4, pos := "ref.go:258", after := #[{ on := 0, ground := Ground.data }, { on := 2, ground := Ground.data }], guard := none }) (v := ?_) rfl (by kernel_rfl) (by kernel_rfl) (by kernel_rfl) (fun _ _ _ h => h) (Or.inl ⟨by rfl, ?_⟩) hHeld ?_
            rotate_left
            · intro w hSw
              clear hSw
              go_simp
              try with_reducible rfl
            try simp only [Act.put, List.setIfInBounds_toArray, List.set_cons_zero, List.set_cons_succ]
            refine wpAnyH_take (i := 4) (oi := { dst := some 37, op := Op.move (Operand.tmp 36), type := 4, pos := "ref.go:258", after := #[{ on := 3, ground := Ground.data }], guard := none }) (v := ?_) rfl (by kernel_rfl) (by kernel_rfl) (by kernel_rfl) (fun _ _ _ h => h) (Or.inl ⟨by rfl, ?_⟩) hHeld ?_
            rotate_left
            · intro w hSw
              clear hSw
              go_simp
              try with_reducible rfl
            try simp only [Act.put, List.setIfInBounds_toArray, List.set_cons_zero, List.set_cons_succ]
            refine wpAnyH_take (i := 5) (oi := { dst := some 38, op := Op.move (Operand.tmp 3), type := 38, pos := "ref.go:258", after := #[{ on := 4, ground := Ground.guard }], guard := some (4, true) }) (v := ?_) rfl (by kernel_rfl) (by kernel_rfl) (by kernel_rfl) (fun _ _ _ h => h) (Or.inl ⟨by rfl, ?_⟩) hHeld ?_
            rotate_left
            · intro w hSw
              clear hSw
              go_simp
              try with_reducible rfl
            try simp only [Act.put, List.setIfInBounds_toArray, List.set_cons_zero, List.set_cons_succ]
            refine wpAnyH_take (i := 6) (oi := { dst := some 39, op := Op.move (Operand.tmp 6), type := 3, pos := "ref.go:258", after := #[{ on := 4, ground := Ground.guard }], guard := some (4, true) }) (v := ?_) rfl (by kernel_rfl) (by kernel_rfl) (by kernel_rfl) (fun _ _ _ h => h) (Or.inl ⟨by rfl, ?_⟩) hHeld ?_
            rotate_left
            · intro w hSw
              clear hSw
              go_simp
              try with_reducible rfl
            try simp only [Act.put, List.setIfInBounds_toArray, List.set_cons_zero, List.set_cons_succ]
            refine wpAnyH_take (i := 7) (oi := { dst := some 40, op := Op.indexAddr 38 (Operand.tmp 38) (Operand.tmp 39), type := 0, pos := "ref.go:258", after := #[{ on := 5, ground := Ground.data }, { on := 6, ground := Ground.data }, { on := 4, ground := Ground.guard }], guard := some (4, true) }) (v := ?_) rfl (by kernel_rfl) (by kernel_rfl) (by kernel_rfl) (fun _ _ _ h => h) (Or.inl ⟨by rfl, ?_⟩) hHeld ?_
            rotate_left
            · intro w hSw
              clear hSw
              go_simp
              try with_reducible rfl
            try simp only [Act.put, List.setIfInBounds_toArray, List.set_cons_zero, List.set_cons_succ]
            refine wpAnyH_take (i := 8) (oi := { dst := some 41, op := Op.load 59 (Operand.tmp 40), type := 59, pos := "ref.go:258", after := #[{ on := 7, ground := Ground.data }, { on := 4, ground := Ground.guard }], guard := some (4, true) }) (v := ?_) rfl (by kernel_rfl) (by kernel_rfl) (by kernel_rfl) (fun _ _ _ h => h) (Or.inl ⟨by rfl, ?_⟩) hHeld ?_
            rotate_left
            · intro w hSw
              have hq := own_lg2 hSw.1 HY.out
              obtain ⟨q0, q1, q2⟩ := hq
              obtain ⟨p0, p1, p2⟩ := CellsAt.c3 hSw.2.1
              clear hSw
              go_simp
              try with_reducible rfl
            try simp only [Act.put, List.setIfInBounds_toArray, List.set_cons_zero, List.set_cons_succ]
            refine wpAnyH_take (i := 9) (oi := { dst := some 42, op := Op.load 59 (Operand.tmp 5), type := 59, pos := "ref.go:258", after := #[{ on := 4, ground := Ground.guard }], guard := some (4, true) }) (v := ?_) rfl (by kernel_rfl) (by kernel_rfl) (by kernel_rfl) (fun _ _ _ h => h) (Or.inl ⟨by rfl, ?_⟩) hHeld ?_
            rotate_left
            · intro w hSw
              have hq := own_lg2 hSw.1 HY.out
              obtain ⟨q0, q1, q2⟩ := hq
              obtain ⟨p0, p1, p2⟩ := CellsAt.c3 hSw.2.1
              clear hSw
              go_simp
              try with_reducible rfl
            try simp only [Act.put, List.setIfInBounds_toArray, List.set_cons_zero, List.set_cons_succ]
            refine wpAnyH_ready (rs := [10]) (by kernel_rfl) (by simp) ?_
            refine AllReadyH.cons (o := { dst := some 43, op := Op.call { callee := Callee.value (Operand.func 66), args := #[Operand.tmp 41, Operand.tmp 42], argTypes := #[59, 59] }, type := 4, pos := "ref.go:258", after := #[{ on := 8, ground := Ground.data }, { on := 9, ground := Ground.data }, { on := 4, ground := Ground.chain }, { on := 4, ground := Ground.guard }], guard := some (4, true) }) rfl (fun K hK => ?_) AllReadyH.nil
            go_simp
            refine (HLX.out false _ HRR.out).mono ?_
            rintro e wz ⟨rfl, hbz⟩
            have HSz := Lib.hid hHeld
            refine hK.out _ _ (⟨OwnL.below HSz.out.1 hbz (Nat.le_refl _), HSz.out.2.1.below hbz HSz.out.2.1.lt, HSz.out.2.2.trans (hbz.mono HSz.out.2.2.size)⟩) (fun hHeld => ?_)
            clear hK K
            try simp only [Act.put, List.setIfInBounds_toArray, List.set_cons_zero, List.set_cons_succ]
            refine wpAnyH_take (i := 11) (oi := { dst := some 44, op := Op.pick (Operand.tmp 37) (Operand.tmp 43) (Operand.const (Value.bool false)), type := 4, pos := "ref.go:258", after := #[{ on := 4, ground := Ground.data }, { on := 10, ground := Ground.data }], guard := none }) (v := ?_) rfl (by kernel_rfl) (by kernel_rfl) (by kernel_rfl) (fun _ _ _ h => h) (Or.inl ⟨by rfl, ?_⟩) hHeld ?_
            rotate_left
            · intro w hSw
              clear hSw
              go_simp
              try with_reducible rfl
            try simp only [Act.put, List.setIfInBounds_toArray, List.set_cons_zero, List.set_cons_succ]
            refine wpAnyH_done (by kernel_rfl) ?_ _
            have HE := Lib.hid hHeld
            clear hHeld HO HXB HB
            go_upto_region 9 with fail
            obtain ⟨q0, q1, q2⟩ := own_lg2 HE.out.1 HY.out
            obtain ⟨p0, p1, p2⟩ := CellsAt.c3 HE.out.2.1
            by_cases hyx : y = x
            · subst hyx
              have HSAME : Hid (insAll ltL [] (L.take (k + 1)) = S) := by
                show _ = _
                rw [HNX.out, insR_at ltL_irrefl S t HLS.out (.inr ⟨y, HY.out, ltL_irrefl y⟩), if_pos HY.out]
              have he0 : ((y.g : Int) == (y.g : Int)) = true := beq_iff_eq.2 rfl
              have he1 : ((y.a : Int) == (y.a : Int)) = true := beq_iff_eq.2 rfl
              have he2 : ((y.b : Int) == (y.b : Int)) = true := beq_iff_eq.2 rfl
              go_quiet (fail)
              go_wp2_with fail
              exact ⟨⟨k + 1, some ⟨b1, o1, none⟩, m, c, by rw [show 3 * (k + 1) = q + 3 by have := HQ.out; omega]; go_num, rfl, by omega, by omega, by rw [HSAME.out]; exact HE.out.1, below_drewN HE.out.2.2 _⟩, by have h1 := HQ.out; have h2 := HN3.out; simp [intOf]; omega⟩
            · have HNEW : Hid (insAll ltL [] (L.take (k + 1)) = (S.take t ++ [x]) ++ S.drop t) := by
                show _ = _
                rw [HNX.out, insR_at ltL_irrefl S t HLS.out (.inr ⟨y, HY.out, HRR.out⟩), HY.out, if_neg (by simpa using hyx), List.append_assoc]
                rfl
              have HD2 : Hid (¬ (y.g = x.g ∧ y.a = x.a ∧ y.b = x.b)) := fun e => hyx (Lg.eq_iff.1 e)
              clear hyx HNX HLS HY HRR
              by_cases d0 : y.g = x.g
              · have he0 : ((y.g : Int) == (x.g : Int)) = true := by simp [d0]
                by_cases d1 : y.a = x.a
                · have he1 : ((y.a : Int) == (x.a : Int)) = true := by simp [d1]
                  have d2 : ¬ y.b = x.b := fun e => HD2.out ⟨d0, d1, e⟩
                  have he2 : ((y.b : Int) == (x.b : Int)) = false := beq_eq_false_iff_ne.2 (by omega)
                  clear d0 d1 d2
                  go_quiet (fail)
                  go_upto_region 11 with fail
                  refine wp_name fun W hW => ?_
                  have HOW : Hid (OwnL W w.heap.size 59 3 Lg.cs (.slice (some ⟨b1, o1, none⟩) m c) S) := by rw [hW]; exact HE.out.1
                  have HBW : Hid (Below w.heap.size w W) := by rw [hW]; exact below_drewN HE.out.2.2 _
                  have HXB : Hid (CellsAt W g #[.int .u32 (x.g : Nat), .int .u32 (x.a : Nat), .int .u32 (x.b : Nat)] 59) := by rw [hW]; exact HE.out.2.1.drew _
                  clear hW HE p0 p1 p2 q0 q1 q2
                  have hsW := HBW.out.size
                  have HSO : Hid (∀ X, Below W.heap.size W X → OwnL X w.heap.size 59 3 Lg.cs (.slice (some ⟨b1, o1, none⟩) m c) S) := fun X hX => OwnL.below HOW.out hX (Nat.le_refl _)
                  have HRS := Lib.hid (rd_of Lg.cs_len HOW.out).1
                  have HR1 : Hid (Rd W (some ⟨b1, o1, none⟩) 3 ((S.take t).map Lg.cs)) := rd_take HRS.out t
                  have HL1 : Hid (t = (S.take t).length) := by show _ = _; rw [List.length_take, ← HM.out]; omega
                  have HL2 : Hid (m - t = (S.drop t).length) := by show _ = _; rw [List.length_drop]; have := HM.out; omega
                  have HBW1 : Hid (∀ j : Nat, j ≤ 1048577 → j ≤ maxLen ∧ j * 12 ≤ 140737488355328) := fun j hj => ⟨by unfold maxLen; omega, by omega⟩
                  have HN0 : Hid (OwnL W W.heap.size 59 3 Lg.cs (.slice none 0 0) []) := OwnL.nil _ _ _ _ _
                  have htc : (t : Int) ≤ (c : Int) := by omega
                  have htm2 : (t : Int) ≤ (m : Int) := by omega
                  go_wp2_with (at_builtin; refine wpList_more Tryz.underlying38 _ infoLg rfl (by decide) Lg.cs_len Lg.ones rfl (.tmp 59) (.tmp 62) rfl W.heap.size none 0 0 [] rfl rfl HN0.out (S.take t) (some ⟨b1, o1, none⟩) t c HL1.out rfl HR1.out (Nat.le_refl _) (by rw [Nat.zero_add]; exact (HBW1.out t (by omega)).1) (by rw [Nat.zero_add]; exact (HBW1.out t (by omega)).2) ?_)
                  intro A1 c1 w1 HO1 HG1
                  have HBx : Hid (Below W.heap.size W w1) := (Below.refl _ _).grown HG1.out (Nat.le_refl _) (fun q hq => by cases hq)
                  have HO1' : Hid (OwnL w1 W.heap.size 59 3 Lg.cs (.slice A1 t c1) (S.take t)) := HO1.out
                  have HB1 : Hid (Below w.heap.size w w1) := HBW.out.trans (HBx.out.mono hsW)
                  have HS1 := Lib.hid (OwnL.below HOW.out HBx.out (Nat.le_refl _))
                  have hs1 := HBx.out.size
                  clear HO1 HG1 HN0 HR1 HOW HRS
                  have HXB1 : Hid (CellsAt w1 g #[.int .u32 (x.g : Nat), .int .u32 (x.a : Nat), .int .u32 (x.b : Nat)] 59) := HXB.out.below HBx.out (HXB.out.lt)
                  obtain ⟨p0, p1, p2⟩ := CellsAt.c3 HXB1.out
                  have HCB : Hid (CellsAt (w1.alloc (.cells #[.int .u32 (x.g : Nat), .int .u32 (x.a : Nat), .int .u32 (x.b : Nat)] 59)) w1.heap.size #[.int .u32 (x.g : Nat), .int .u32 (x.a : Nat), .int .u32 (x.b : Nat)] 59) := CellsAt.new _ _ _
                  have HRB : Hid (Rd (w1.alloc (.cells #[.int .u32 (x.g : Nat), .int .u32 (x.a : Nat), .int .u32 (x.b : Nat)] 59)) (some ⟨w1.heap.size, 0, none⟩) 3 ([x].map Lg.cs)) := rd_new1 HCB.out rfl
                  have HOa : Hid (OwnL (w1.alloc (.cells #[.int .u32 (x.g : Nat), .int .u32 (x.a : Nat), .int .u32 (x.b : Nat)] 59)) W.heap.size 59 3 Lg.cs (.slice A1 t c1) (S.take t)) := HO1'.out.alloc _
                  have HBa : Hid (Below W.heap.size W (w1.alloc (.cells #[.int .u32 (x.g : Nat), .int .u32 (x.a : Nat), .int .u32 (x.b : Nat)] 59))) := HBx.out.alloc hs1 _
                  go_wp2_with (at_builtin; refine wpList_more Tryz.underlying38 _ infoLg rfl (by decide) Lg.cs_len Lg.ones rfl (.tmp 64) (.tmp 66) rfl W.heap.size A1 t c1 (S.take t) HL1.out rfl HOa.out [x] (some ⟨w1.heap.size, 0, none⟩) 1 1 rfl rfl HRB.out HBa.out.size (HBW1.out (t + 1) (by omega)).1 (HBW1.out (t + 1) (by omega)).2 ?_)
                  intro A2 c2 w2 HO2 HG2
                  have hob : ∀ q, (Value.slice A1 t c1).ownBlock = some q → W.heap.size ≤ q ∧ q < (w1.alloc (.cells #[.int .u32 (x.g : Nat), .int .u32 (x.a : Nat), .int .u32 (x.b : Nat)] 59)).heap.size := fun q hq => OwnM.lt HOa.out q hq
                  have HBy : Hid (Below W.heap.size W w2) := HBa.out.grown HG2.out HBa.out.size (fun q hq => (hob q hq).1)
                  have HL3 : Hid (t + 1 = (S.take t ++ [x]).length) := by show _ = _; rw [List.length_append, ← HL1.out]; rfl
                  have HS2 := Lib.hid (HSO.out _ HBy.out)
                  have HRS2 : Hid (Rd w2 (some ⟨b1, o1 + t * 3, none⟩) 3 ((S.drop t).map Lg.cs)) := rd_drop (rd_of Lg.cs_len HS2.out).1 t
                  clear p0 p1 p2 HXB1 HBa HOa HRB HCB HG2 hob HS1 HO1'
                  go_wp2_with (at_builtin; refine wpList_more Tryz.underlying38 _ infoLg rfl (by decide) Lg.cs_len Lg.ones rfl (.tmp 68) (.tmp 71) rfl W.heap.size A2 (t + 1) c2 (S.take t ++ [x]) HL3.out rfl HO2.out (S.drop t) (some ⟨b1, o1 + t * 3, none⟩) (m - t) (c - t) HL2.out rfl HRS2.out HBy.out.size (HBW1.out (t + 1 + (m - t)) (by omega)).1 (HBW1.out (t + 1 + (m - t)) (by omega)).2 ?_)
                  intro A3 c3 w3 HO3 HG3
                  have hob : ∀ q, (Value.slice A2 (t + 1) c2).ownBlock = some q → W.heap.size ≤ q ∧ q < w2.heap.size := fun q hq => OwnM.lt HO2.out q hq
                  have HBz : Hid (Below W.heap.size W w3) := HBy.out.grown HG3.out HBy.out.size (fun q hq => (hob q hq).1)
                  have HFIN : Hid (OwnL w3 w.heap.size 59 3 Lg.cs (.slice A3 (t + 1 + (m - t)) c3) (insAll ltL [] (L.take (k + 1)))) := by
                    show OwnL _ _ _ _ _ _ _
                    rw [HNEW.out]
                    exact OwnM.lower (OwnL.assoc HO3.out) hsW
                  have HBF : Hid (Below w.heap.size w w3) := HBW.out.trans (HBz.out.mono hsW)
                  clear hob HG3 HO3 HO2 HRS2 HBy HBz HS2 HSO HNEW
                  go_wp2_with fail
                  exact ⟨⟨k + 1, A3, t + 1 + (m - t), c3, by rw [show 3 * (k + 1) = q + 3 by have := HQ.out; omega]; go_num, rfl, by omega, by omega, HFIN.out, HBF.out⟩, by have h1 := HQ.out; have h2 := HN3.out; simp [intOf]; omega⟩
                · have he1 : ((y.a : Int) == (x.a : Int)) = false := beq_eq_false_iff_ne.2 (by omega)
                  clear d0 d1
                  go_quiet (fail)
                  go_upto_region 11 with fail
                  refine wp_name fun W hW => ?_
                  have HOW : Hid (OwnL W w.heap.size 59 3 Lg.cs (.slice (some ⟨b1, o1, none⟩) m c) S) := by rw [hW]; exact HE.out.1
                  have HBW : Hid (Below w.heap.size w W) := by rw [hW]; exact below_drewN HE.out.2.2 _
                  have HXB : Hid (CellsAt W g #[.int .u32 (x.g : Nat), .int .u32 (x.a : Nat), .int .u32 (x.b : Nat)] 59) := by rw [hW]; exact HE.out.2.1.drew _
                  clear hW HE p0 p1 p2 q0 q1 q2
                  have hsW := HBW.out.size
                  have HSO : Hid (∀ X, Below W.heap.size W X → OwnL X w.heap.size 59 3 Lg.cs (.slice (some ⟨b1, o1, none⟩) m c) S) := fun X hX => OwnL.below HOW.out hX (Nat.le_refl _)
                  have HRS := Lib.hid (rd_of Lg.cs_len HOW.out).1
                  have HR1 : Hid (Rd W (some ⟨b1, o1, none⟩) 3 ((S.take t).map Lg.cs)) := rd_take HRS.out t
                  have HL1 : Hid (t = (S.take t).length) := by show _ = _; rw [List.length_take, ← HM.out]; omega
                  have HL2 : Hid (m - t = (S.drop t).length) := by show _ = _; rw [List.length_drop]; have := HM.out; omega
                  have HBW1 : Hid (∀ j : Nat, j ≤ 1048577 → j ≤ maxLen ∧ j * 12 ≤ 140737488355328) := fun j hj => ⟨by unfold maxLen; omega, by omega⟩
                  have HN0 : Hid (OwnL W W.heap.size 59 3 Lg.cs (.slice none 0 0) []) := OwnL.nil _ _ _ _ _
                  have htc : (t : Int) ≤ (c : Int) := by omega
                  have htm2 : (t : Int) ≤ (m : Int) := by omega
                  go_wp2_with (at_builtin; refine wpList_more Tryz.underlying38 _ infoLg rfl (by decide) Lg.cs_len Lg.ones rfl (.tmp 59) (.tmp 62) rfl W.heap.size none 0 0 [] rfl rfl HN0.out (S.take t) (some ⟨b1, o1, none⟩) t c HL1.out rfl HR1.out (Nat.le_refl _) (by rw [Nat.zero_add]; exact (HBW1.out t (by omega)).1) (by rw [Nat.zero_add]; exact (HBW1.out t (by omega)).2) ?_)
                  intro A1 c1 w1 HO1 HG1
                  have HBx : Hid (Below W.heap.size W w1) := (Below.refl _ _).grown HG1.out (Nat.le_refl _) (fun q hq => by cases hq)
                  have HO1' : Hid (OwnL w1 W.heap.size 59 3 Lg.cs (.slice A1 t c1) (S.take t)) := HO1.out
                  have HB1 : Hid (Below w.heap.size w w1) := HBW.out.trans (HBx.out.mono hsW)
                  have HS1 := Lib.hid (OwnL.below HOW.out HBx.out (Nat.le_refl _))
                  have hs1 := HBx.out.size
                  clear HO1 HG1 HN0 HR1 HOW HRS
                  have HXB1 : Hid (CellsAt w1 g #[.int .u32 (x.g : Nat), .int .u32 (x.a : Nat), .int .u32 (x.b : Nat)] 59) := HXB.out.below HBx.out (HXB.out.lt)
                  obtain ⟨p0, p1, p2⟩ := CellsAt.c3 HXB1.out
                  have HCB : Hid (CellsAt (w1.alloc (.cells #[.int .u32 (x.g : Nat), .int .u32 (x.a : Nat), .int .u32 (x.b : Nat)] 59)) w1.heap.size #[.int .u32 (x.g : Nat), .int .u32 (x.a : Nat), .int .u32 (x.b : Nat)] 59) := CellsAt.new _ _ _
                  have HRB : Hid (Rd (w1.alloc (.cells #[.int .u32 (x.g : Nat), .int .u32 (x.a : Nat), .int .u32 (x.b : Nat)] 59)) (some ⟨w1.heap.size, 0, none⟩) 3 ([x].map Lg.cs)) := rd_new1 HCB.out rfl
                  have HOa : Hid (OwnL (w1.alloc (.cells #[.int .u32 (x.g : Nat), .int .u32 (x.a : Nat), .int .u32 (x.b : Nat)] 59)) W.heap.size 59 3 Lg.cs (.slice A1 t c1) (S.take t)) := HO1'.out.alloc _
                  have HBa : Hid (Below W.heap.size W (w1.alloc (.cells #[.int .u32 (x.g : Nat), .int .u32 (x.a : Nat), .int .u32 (x.b : Nat)] 59))) := HBx.out.alloc hs1 _
                  go_wp2_with (at_builtin; refine wpList_more Tryz.underlying38 _ infoLg rfl (by decide) Lg.cs_len Lg.ones rfl (.tmp 64) (.tmp 66) rfl W.heap.size A1 t c1 (S.take t) HL1.out rfl HOa.out [x] (some ⟨w1.heap.size, 0, none⟩) 1 1 rfl rfl HRB.out HBa.out.size (HBW1.out (t + 1) (by omega)).1 (HBW1.out (t + 1) (by omega)).2 ?_)
                  intro A2 c2 w2 HO2 HG2
                  have hob : ∀ q, (Value.slice A1 t c1).ownBlock = some q → W.heap.size ≤ q ∧ q < (w1.alloc (.cells #[.int .u32 (x.g : Nat), .int .u32 (x.a : Nat), .int .u32 (x.b : Nat)] 59)).heap.size := fun q hq => OwnM.lt HOa.out q hq
                  have HBy : Hid (Below W.heap.size W w2) := HBa.out.grown HG2.out HBa.out.size (fun q hq => (hob q hq).1)
                  have HL3 : Hid (t + 1 = (S.take t ++ [x]).length) := by show _ = _; rw [List.length_append, ← HL1.out]; rfl
                  have HS2 := Lib.hid (HSO.out _ HBy.out)
                  have HRS2 : Hid (Rd w2 (some ⟨b1, o1 + t * 3, none⟩) 3 ((S.drop t).map Lg.cs)) := rd_drop (rd_of Lg.cs_len HS2.out).1 t
                  clear p0 p1 p2 HXB1 HBa HOa HRB HCB HG2 hob HS1 HO1'
                  go_wp2_with (at_builtin; refine wpList_more Tryz.underlying38 _ infoLg rfl (by decide) Lg.cs_len Lg.ones rfl (.tmp 68) (.tmp 71) rfl W.heap.size A2 (t + 1) c2 (S.take t ++ [x]) HL3.out rfl HO2.out (S.drop t) (some ⟨b1, o1 + t * 3, none⟩) (m - t) (c - t) HL2.out rfl HRS2.out HBy.out.size (HBW1.out (t + 1 + (m - t)) (by omega)).1 (HBW1.out (t + 1 + (m - t)) (by omega)).2 ?_)
                  intro A3 c3 w3 HO3 HG3
                  have hob : ∀ q, (Value.slice A2 (t + 1) c2).ownBlock = some q → W.heap.size ≤ q ∧ q < w2.heap.size := fun q hq => OwnM.lt HO2.out q hq
                  have HBz : Hid (Below W.heap.size W w3) := HBy.out.grown HG3.out HBy.out.size (fun q hq => (hob q hq).1)
                  have HFIN : Hid (OwnL w3 w.heap.size 59 3 Lg.cs (.slice A3 (t + 1 + (m - t)) c3) (insAll ltL [] (L.take (k + 1)))) := by
                    show OwnL _ _ _ _ _ _ _
                    rw [HNEW.out]
                    exact OwnM.lower (OwnL.assoc HO3.out) hsW
                  have HBF : Hid (Below w.heap.size w w3) := HBW.out.trans (HBz.out.mono hsW)
                  clear hob HG3 HO3 HO2 HRS2 HBy HBz HS2 HSO HNEW
                  go_wp2_with fail
                  exact ⟨⟨k + 1, A3, t + 1 + (m - t), c3, by rw [show 3 * (k + 1) = q + 3 by have := HQ.out; omega]; go_num, rfl, by omega, by omega, HFIN.out, HBF.out⟩, by have h1 := HQ.out; have h2 := HN3.out; simp [intOf]; omega⟩
              · have he0 : ((y.g : Int) == (x.g : Int)) = false := beq_eq_false_iff_ne.2 (by omega)
                clear d0
                go_quiet (fail)
                go_upto_region 11 with fail
                refine wp_name fun W hW => ?_
                have HOW : Hid (OwnL W w.heap.size 59 3 Lg.cs (.slice (some ⟨b1, o1, none⟩) m c) S) := by rw [hW]; exact HE.out.1
                have HBW : Hid (Below w.heap.size w W) := by rw [hW]; exact below_drewN HE.out.2.2 _
                have HXB : Hid (CellsAt W g #[.int .u32 (x.g : Nat), .int .u32 (x.a : Nat), .int .u32 (x.b : Nat)] 59) := by rw [hW]; exact HE.out.2.1.drew _
                clear hW HE p0 p1 p2 q0 q1 q2
                have hsW := HBW.out.size
                have HSO : Hid (∀ X, Below W.heap.size W X → OwnL X w.heap.size 59 3 Lg.cs (.slice (some ⟨b1, o1, none⟩) m c) S) := fun X hX => OwnL.below HOW.out hX (Nat.le_refl _)
                have HRS := Lib.hid (rd_of Lg.cs_len HOW.out).1
                have HR1 : Hid (Rd W (some ⟨b1, o1, none⟩) 3 ((S.take t).map Lg.cs)) := rd_take HRS.out t
                have HL1 : Hid (t = (S.take t).length) := by show _ = _; rw [List.length_take, ← HM.out]; omega
                have HL2 : Hid (m - t = (S.drop t).length) := by show _ = _; rw [List.length_drop]; have := HM.out; omega
                have HBW1 : Hid (∀ j : Nat, j ≤ 1048577 → j ≤ maxLen ∧ j * 12 ≤ 140737488355328) := fun j hj => ⟨by unfold maxLen; omega, by omega⟩
                have HN0 : Hid (OwnL W W.heap.size 59 3 Lg.cs (.slice none 0 0) []) := OwnL.nil _ _ _ _ _
                have htc : (t : Int) ≤ (c : Int) := by omega
                have htm2 : (t : Int) ≤ (m : Int) := by omega
                go_wp2_with (at_builtin; refine wpList_more Tryz.underlying38 _ infoLg rfl (by decide) Lg.cs_len Lg.ones rfl (.tmp 59) (.tmp 62) rfl W.heap.size none 0 0 [] rfl rfl HN0.out (S.take t) (some ⟨b1, o1, none⟩) t c HL1.out rfl HR1.out (Nat.le_refl _) (by rw [Nat.zero_add]; exact (HBW1.out t (by omega)).1) (by rw [Nat.zero_add]; exact (HBW1.out t (by omega)).2) ?_)
                intro A1 c1 w1 HO1 HG1
                have HBx : Hid (Below W.heap.size W w1) := (Below.refl _ _).grown HG1.out (Nat.le_refl _) (fun q hq => by cases hq)
                have HO1' : Hid (OwnL w1 W.heap.size 59 3 Lg.cs (.slice A1 t c1) (S.take t)) := HO1.out
                have HB1 : Hid (Below w.heap.size w w1) := HBW.out.trans (HBx.out.mono hsW)
                have HS1 := Lib.hid (OwnL.below HOW.out HBx.out (Nat.le_refl _))
                have hs1 := HBx.out.size
                clear HO1 HG1 HN0 HR1 HOW HRS
                have HXB1 : Hid (CellsAt w1 g #[.int .u32 (x.g : Nat), .int .u32 (x.a : Nat), .int .u32 (x.b : Nat)] 59) := HXB.out.below HBx.out (HXB.out.lt)
                obtain ⟨p0, p1, p2⟩ := CellsAt.c3 HXB1.out
                have HCB : Hid (CellsAt (w1.alloc (.cells #[.int .u32 (x.g : Nat), .int .u32 (x.a : Nat), .int .u32 (x.b : Nat)] 59)) w1.heap.size #[.int .u32 (x.g : Nat), .int .u32 (x.a : Nat), .int .u32 (x.b : Nat)] 59) := CellsAt.new _ _ _
                have HRB : Hid (Rd (w1.alloc (.cells #[.int .u32 (x.g : Nat), .int .u32 (x.a : Nat), .int .u32 (x.b : Nat)] 59)) (some ⟨w1.heap.size, 0, none⟩) 3 ([x].map Lg.cs)) := rd_new1 HCB.out rfl
                have HOa : Hid (OwnL (w1.alloc (.cells #[.int .u32 (x.g : Nat), .int .u32 (x.a : Nat), .int .u32 (x.b : Nat)] 59)) W.heap.size 59 3 Lg.cs (.slice A1 t c1) (S.take t)) := HO1'.out.alloc _
                have HBa : Hid (Below W.heap.size W (w1.alloc (.cells #[.int .u32 (x.g : Nat), .int .u32 (x.a : Nat), .int .u32 (x.b : Nat)] 59))) := HBx.out.alloc hs1 _
                go_wp2_with (at_builtin; refine wpList_more Tryz.underlying38 _ infoLg rfl (by decide) Lg.cs_len Lg.ones rfl (.tmp 64) (.tmp 66) rfl W.heap.size A1 t c1 (S.take t) HL1.out rfl HOa.out [x] (some ⟨w1.heap.size, 0, none⟩) 1 1 rfl rfl HRB.out HBa.out.size (HBW1.out (t + 1) (by omega)).1 (HBW1.out (t + 1) (by omega)).2 ?_)
                intro A2 c2 w2 HO2 HG2
                have hob : ∀ q, (Value.slice A1 t c1).ownBlock = some q → W.heap.size ≤ q ∧ q < (w1.alloc (.cells #[.int .u32 (x.g : Nat), .int .u32 (x.a : Nat), .int .u32 (x.b : Nat)] 59)).heap.size := fun q hq => OwnM.lt HOa.out q hq
                have HBy : Hid (Below W.heap.size W w2) := HBa.out.grown HG2.out HBa.out.size (fun q hq => (hob q hq).1)
                have HL3 : Hid (t + 1 = (S.take t ++ [x]).length) := by show _ = _; rw [List.length_append, ← HL1.out]; rfl
                have HS2 := Lib.hid (HSO.out _ HBy.out)
                have HRS2 : Hid (Rd w2 (some ⟨b1, o1 + t * 3, none⟩) 3 ((S.drop t).map Lg.cs)) := rd_drop (rd_of Lg.cs_len HS2.out).1 t
                clear p0 p1 p2 HXB1 HBa HOa HRB HCB HG2 hob HS1 HO1'
                go_wp2_with (at_builtin; refine wpList_more Tryz.underlying38 _ infoLg rfl (by decide) Lg.cs_len Lg.ones rfl (.tmp 68) (.tmp 71) rfl W.heap.size A2 (t + 1) c2 (S.take t ++ [x]) HL3.out rfl HO2.out (S.drop t) (some ⟨b1, o1 + t * 3, none⟩) (m - t) (c - t) HL2.out rfl HRS2.out HBy.out.size (HBW1.out (t + 1 + (m - t)) (by omega)).1 (HBW1.out (t + 1 + (m - t)) (by omega)).2 ?_)
                intro A3 c3 w3 HO3 HG3
                have hob : ∀ q, (Value.slice A2 (t + 1) c2).ownBlock = some q → W.heap.size ≤ q ∧ q < w2.heap.size := fun q hq => OwnM.lt HO2.out q hq
                have HBz : Hid (Below W.heap.size W w3) := HBy.out.grown HG3.out HBy.out.size (fun q hq => (hob q hq).1)
                have HFIN : Hid (OwnL w3 w.heap.size 59 3 Lg.cs (.slice A3 (t + 1 + (m - t)) c3) (insAll ltL [] (L.take (k + 1)))) := by
                  show OwnL _ _ _ _ _ _ _
                  rw [HNEW.out]
                  exact OwnM.lower (OwnL.assoc HO3.out) hsW
                have HBF : Hid (Below w.heap.size w w3) := HBW.out.trans (HBz.out.mono hsW)
                clear hob HG3 HO3 HO2 HRS2 HBy HBz HS2 HSO HNEW
                go_wp2_with fail
                exact ⟨⟨k + 1, A3, t + 1 + (m - t), c3, by rw [show 3 * (k + 1) = q + 3 by have := HQ.out; omega]; go_num, rfl, by omega, by omega, HFIN.out, HBF.out⟩, by have h1 := HQ.out; have h2 := HN3.out; simp [intOf]; omega⟩
        · obtain rfl : m = t := by omega
          have HNEW : Hid (insAll ltL [] (L.take (k + 1)) = (S.take m ++ [x]) ++ S.drop m) := by
            show _ = _
            rw [HNX.out, insR_at ltL_irrefl S m HLS.out (.inl HM.out), List.getElem?_eq_none (by rw [← HM.out]; exact Nat.le_refl _), if_neg (by simp), List.append_assoc]
            rfl
          clear HNX HLS
          have HAD := own_addr HO.out
          rcases HAD with ⟨rfl, hm00, hc00⟩ | ⟨b1, rfl⟩
          · obtain rfl : m = 0 := hm00
            obtain rfl : c = 0 := hc00
            go_wp2_with fail
            go_quiet (fail)
            go_wp2_with fail
            go_quiet (fail)
            go_upto_region 11 with fail
            refine wp_name fun W hW => ?_
            have HOW : Hid (OwnL W w.heap.size 59 3 Lg.cs (.slice none 0 0) S) := by rw [hW]; exact HO.out
            have HBW : Hid (Below w.heap.size w W) := by rw [hW]; exact below_drewN (below_drewN HB.out _) _
            have HXB' := HXB
            clear HXB
            have HXB : Hid (CellsAt W g #[.int .u32 (x.g : Nat), .int .u32 (x.a : Nat), .int .u32 (x.b : Nat)] 59) := by rw [hW]; exact (HXB'.out.drew _).drew _
            clear hW HO HB HXB'
            have hsW := HBW.out.size
            have HSO : Hid (∀ X, Below W.heap.size W X → OwnL X w.heap.size 59 3 Lg.cs (.slice none 0 0) S) := fun X hX => OwnL.below HOW.out hX (Nat.le_refl _)
            have HRS := Lib.hid (rd_of Lg.cs_len HOW.out).1
            have HR1 : Hid (Rd W none 3 ((S.take 0).map Lg.cs)) := rd_take HRS.out 0
            have HL1 : Hid (0 = (S.take 0).length) := by show _ = _; rw [List.length_take, ← HM.out]; omega
            have HL2 : Hid (0 = (S.drop 0).length) := by show _ = _; rw [List.length_drop]; have := HM.out; omega
            have HBW1 : Hid (∀ j : Nat, j ≤ 1048577 → j ≤ maxLen ∧ j * 12 ≤ 140737488355328) := fun j hj => ⟨by unfold maxLen; omega, by omega⟩
            have HN0 : Hid (OwnL W W.heap.size 59 3 Lg.cs (.slice none 0 0) []) := OwnL.nil _ _ _ _ _
            have htc : (0 : Int) ≤ (0 : Int) := by omega
            have htm2 : (0 : Int) ≤ (0 : Int) := by omega
            go_wp2_with (at_builtin; refine wpList_more Tryz.underlying38 _ infoLg rfl (by decide) Lg.cs_len Lg.ones rfl (.tmp 59) (.tmp 62) rfl W.heap.size none 0 0 [] rfl rfl HN0.out (S.take 0) none 0 0 HL1.out rfl HR1.out (Nat.le_refl _) (by rw [Nat.zero_add]; exact (HBW1.out 0 (by omega)).1) (by rw [Nat.zero_add]; exact (HBW1.out 0 (by omega)).2) ?_)
            intro A1 c1 w1 HO1 HG1
            have HBx : Hid (Below W.heap.size W w1) := (Below.refl _ _).grown HG1.out (Nat.le_refl _) (fun q hq => by cases hq)
            have HO1' : Hid (OwnL w1 W.heap.size 59 3 Lg.cs (.slice A1 0 c1) (S.take 0)) := HO1.out
            have HB1 : Hid (Below w.heap.size w w1) := HBW.out.trans (HBx.out.mono hsW)
            have HS1 := Lib.hid (OwnL.below HOW.out HBx.out (Nat.le_refl _))
            have hs1 := HBx.out.size
            clear HO1 HG1 HN0 HR1 HOW HRS
            have HXB1 : Hid (CellsAt w1 g #[.int .u32 (x.g : Nat), .int .u32 (x.a : Nat), .int .u32 (x.b : Nat)] 59) := HXB.out.below HBx.out (HXB.out.lt)
            obtain ⟨p0, p1, p2⟩ := CellsAt.c3 HXB1.out
            have HCB : Hid (CellsAt (w1.alloc (.cells #[.int .u32 (x.g : Nat), .int .u32 (x.a : Nat), .int .u32 (x.b : Nat)] 59)) w1.heap.size #[.int .u32 (x.g : Nat), .int .u32 (x.a : Nat), .int .u32 (x.b : Nat)] 59) := CellsAt.new _ _ _
            have HRB : Hid (Rd (w1.alloc (.cells #[.int .u32 (x.g : Nat), .int .u32 (x.a : Nat), .int .u32 (x.b : Nat)] 59)) (some ⟨w1.heap.size, 0, none⟩) 3 ([x].map Lg.cs)) := rd_new1 HCB.out rfl
            have HOa : Hid (OwnL (w1.alloc (.cells #[.int .u32 (x.g : Nat), .int .u32 (x.a : Nat), .int .u32 (x.b : Nat)] 59)) W.heap.size 59 3 Lg.cs (.slice A1 0 c1) (S.take 0)) := HO1'.out.alloc _
            have HBa : Hid (Below W.heap.size W (w1.alloc (.cells #[.int .u32 (x.g : Nat), .int .u32 (x.a : Nat), .int .u32 (x.b : Nat)] 59))) := HBx.out.alloc hs1 _
            go_wp2_with (at_builtin; refine wpList_more Tryz.underlying38 _ infoLg rfl (by decide) Lg.cs_len Lg.ones rfl (.tmp 64) (.tmp 66) rfl W.heap.size A1 0 c1 (S.take 0) HL1.out rfl HOa.out [x] (some ⟨w1.heap.size, 0, none⟩) 1 1 rfl rfl HRB.out HBa.out.size (HBW1.out (0 + 1) (by omega)).1 (HBW1.out (0 + 1) (by omega)).2 ?_)
            intro A2 c2 w2 HO2 HG2
            have hob : ∀ q, (Value.slice A1 0 c1).ownBlock = some q → W.heap.size ≤ q ∧ q < (w1.alloc (.cells #[.int .u32 (x.g : Nat), .int .u32 (x.a : Nat), .int .u32 (x.b : Nat)] 59)).heap.size := fun q hq => OwnM.lt HOa.out q hq
            have HBy : Hid (Below W.heap.size W w2) := HBa.out.grown HG2.out HBa.out.size (fun q hq => (hob q hq).1)
            have HL3 : Hid (0 + 1 = (S.take 0 ++ [x]).length) := by show _ = _; rw [List.length_append, ← HL1.out]; rfl
            have HS2 := Lib.hid (HSO.out _ HBy.out)
            have HRS2 : Hid (Rd w2 none 3 ((S.drop 0).map Lg.cs)) := by have h2 : S.drop 0 = [] := List.drop_eq_nil_of_le (by rw [← HM.out]; exact Nat.le_refl _); rw [h2]; intro h3; exact absurd h3 (by simp)
            clear p0 p1 p2 HXB1 HBa HOa HRB HCB HG2 hob HS1 HO1'
            go_wp2_with (at_builtin; refine wpList_more Tryz.underlying38 _ infoLg rfl (by decide) Lg.cs_len Lg.ones rfl (.tmp 68) (.tmp 71) rfl W.heap.size A2 (0 + 1) c2 (S.take 0 ++ [x]) HL3.out rfl HO2.out (S.drop 0) none (0) (0) HL2.out rfl HRS2.out HBy.out.size (HBW1.out (0 + 1 + (0)) (by omega)).1 (HBW1.out (0 + 1 + (0)) (by omega)).2 ?_)
            intro A3 c3 w3 HO3 HG3
            have hob : ∀ q, (Value.slice A2 (0 + 1) c2).ownBlock = some q → W.heap.size ≤ q ∧ q < w2.heap.size := fun q hq => OwnM.lt HO2.out q hq
            have HBz : Hid (Below W.heap.size W w3) := HBy.out.grown HG3.out HBy.out.size (fun q hq => (hob q hq).1)
            have HFIN : Hid (OwnL w3 w.heap.size 59 3 Lg.cs (.slice A3 (0 + 1 + (0)) c3) (insAll ltL [] (L.take (k + 1)))) := by
              show OwnL _ _ _ _ _ _ _
              rw [HNEW.out]
              exact OwnM.lower (OwnL.assoc HO3.out) hsW
            have HBF : Hid (Below w.heap.size w w3) := HBW.out.trans (HBz.out.mono hsW)
            clear hob HG3 HO3 HO2 HRS2 HBy HBz HS2 HSO HNEW
            go_wp2_with fail
            exact ⟨⟨k + 1, A3, 0 + 1 + (0), c3, by rw [show 3 * (k + 1) = q + 3 by have := HQ.out; omega]; go_num, rfl, by omega, by omega, HFIN.out, HBF.out⟩, by have h1 := HQ.out; have h2 := HN3.out; simp [intOf]; omega⟩
          · by_cases hmc2 : m = c
            · obtain rfl : m = c := hmc2
              go_wp2_with fail
              go_quiet (fail)
              go_wp2_with fail
              go_quiet (fail)
              go_upto_region 11 with fail
              refine wp_name fun W hW => ?_
              have HOW : Hid (OwnL W w.heap.size 59 3 Lg.cs (.slice (some ⟨b1, 0, none⟩) m m) S) := by rw [hW]; exact HO.out
              have HBW : Hid (Below w.heap.size w W) := by rw [hW]; exact below_drewN (below_drewN HB.out _) _
              have HXB' := HXB
              clear HXB
              have HXB : Hid (CellsAt W g #[.int .u32 (x.g : Nat), .int .u32 (x.a : Nat), .int .u32 (x.b : Nat)] 59) := by rw [hW]; exact (HXB'.out.drew _).drew _
              clear hW HO HB HXB'
              have hsW := HBW.out.size
              have HSO : Hid (∀ X, Below W.heap.size W X → OwnL X w.heap.size 59 3 Lg.cs (.slice (some ⟨b1, 0, none⟩) m m) S) := fun X hX => OwnL.below HOW.out hX (Nat.le_refl _)
              have HRS := Lib.hid (rd_of Lg.cs_len HOW.out).1
              have HR1 : Hid (Rd W (some ⟨b1, 0, none⟩) 3 ((S.take m).map Lg.cs)) := rd_take HRS.out m
              have HL1 : Hid (m = (S.take m).length) := by show _ = _; rw [List.length_take, ← HM.out]; omega
              have HL2 : Hid (0 = (S.drop m).length) := by show _ = _; rw [List.length_drop]; have := HM.out; omega
              have HBW1 : Hid (∀ j : Nat, j ≤ 1048577 → j ≤ maxLen ∧ j * 12 ≤ 140737488355328) := fun j hj => ⟨by unfold maxLen; omega, by omega⟩
              have HN0 : Hid (OwnL W W.heap.size 59 3 Lg.cs (.slice none 0 0) []) := OwnL.nil _ _ _ _ _
              have htc : (m : Int) ≤ (m : Int) := by omega
              have htm2 : (m : Int) ≤ (m : Int) := by omega
              go_wp2_with (at_builtin; refine wpList_more Tryz.underlying38 _ infoLg rfl (by decide) Lg.cs_len Lg.ones rfl (.tmp 59) (.tmp 62) rfl W.heap.size none 0 0 [] rfl rfl HN0.out (S.take m) (some ⟨b1, 0, none⟩) m m HL1.out rfl HR1.out (Nat.le_refl _) (by rw [Nat.zero_add]; exact (HBW1.out m (by omega)).1) (by rw [Nat.zero_add]; exact (HBW1.out m (by omega)).2) ?_)
              intro A1 c1 w1 HO1 HG1
              have HBx : Hid (Below W.heap.size W w1) := (Below.refl _ _).grown HG1.out (Nat.le_refl _) (fun q hq => by cases hq)
              have HO1' : Hid (OwnL w1 W.heap.size 59 3 Lg.cs (.slice A1 m c1) (S.take m)) := HO1.out
              have HB1 : Hid (Below w.heap.size w w1) := HBW.out.trans (HBx.out.mono hsW)
              have HS1 := Lib.hid (OwnL.below HOW.out HBx.out (Nat.le_refl _))
              have hs1 := HBx.out.size
              clear HO1 HG1 HN0 HR1 HOW HRS
              have HXB1 : Hid (CellsAt w1 g #[.int .u32 (x.g : Nat), .int .u32 (x.a : Nat), .int .u32 (x.b : Nat)] 59) := HXB.out.below HBx.out (HXB.out.lt)
              obtain ⟨p0, p1, p2⟩ := CellsAt.c3 HXB1.out
              have HCB : Hid (CellsAt (w1.alloc (.cells #[.int .u32 (x.g : Nat), .int .u32 (x.a : Nat), .int .u32 (x.b : Nat)] 59)) w1.heap.size #[.int .u32 (x.g : Nat), .int .u32 (x.a : Nat), .int .u32 (x.b : Nat)] 59) := CellsAt.new _ _ _
              have HRB : Hid (Rd (w1.alloc (.cells #[.int .u32 (x.g : Nat), .int .u32 (x.a : Nat), .int .u32 (x.b : Nat)] 59)) (some ⟨w1.heap.size, 0, none⟩) 3 ([x].map Lg.cs)) := rd_new1 HCB.out rfl
              have HOa : Hid (OwnL (w1.alloc (.cells #[.int .u32 (x.g : Nat), .int .u32 (x.a : Nat), .int .u32 (x.b : Nat)] 59)) W.heap.size 59 3 Lg.cs (.slice A1 m c1) (S.take m)) := HO1'.out.alloc _
              have HBa : Hid (Below W.heap.size W (w1.alloc (.cells #[.int .u32 (x.g : Nat), .int .u32 (x.a : Nat), .int .u32 (x.b : Nat)] 59))) := HBx.out.alloc hs1 _
              go_wp2_with (at_builtin; refine wpList_more Tryz.underlying38 _ infoLg rfl (by decide) Lg.cs_len Lg.ones rfl (.tmp 64) (.tmp 66) rfl W.heap.size A1 m c1 (S.take m) HL1.out rfl HOa.out [x] (some ⟨w1.heap.size, 0, none⟩) 1 1 rfl rfl HRB.out HBa.out.size (HBW1.out (m + 1) (by omega)).1 (HBW1.out (m + 1) (by omega)).2 ?_)
              intro A2 c2 w2 HO2 HG2
              have hob : ∀ q, (Value.slice A1 m c1).ownBlock = some q → W.heap.size ≤ q ∧ q < (w1.alloc (.cells #[.int .u32 (x.g : Nat), .int .u32 (x.a : Nat), .int .u32 (x.b : Nat)] 59)).heap.size := fun q hq => OwnM.lt HOa.out q hq
              have HBy : Hid (Below W.heap.size W w2) := HBa.out.grown HG2.out HBa.out.size (fun q hq => (hob q hq).1)
              have HL3 : Hid (m + 1 = (S.take m ++ [x]).length) := by show _ = _; rw [List.length_append, ← HL1.out]; rfl
              have HS2 := Lib.hid (HSO.out _ HBy.out)
              have HRS2 : Hid (Rd w2 (some ⟨b1, 0, none⟩) 3 ((S.drop m).map Lg.cs)) := by have h2 : S.drop m = [] := List.drop_eq_nil_of_le (by rw [← HM.out]; exact Nat.le_refl _); rw [h2]; intro h3; exact absurd h3 (by simp)
              clear p0 p1 p2 HXB1 HBa HOa HRB HCB HG2 hob HS1 HO1'
              go_wp2_with (at_builtin; refine wpList_more Tryz.underlying38 _ infoLg rfl (by decide) Lg.cs_len Lg.ones rfl (.tmp 68) (.tmp 71) rfl W.heap.size A2 (m + 1) c2 (S.take m ++ [x]) HL3.out rfl HO2.out (S.drop m) (some ⟨b1, 0, none⟩) (0) (0) HL2.out rfl HRS2.out HBy.out.size (HBW1.out (m + 1 + (0)) (by omega)).1 (HBW1.out (m + 1 + (0)) (by omega)).2 ?_)
              intro A3 c3 w3 HO3 HG3
              have hob : ∀ q, (Value.slice A2 (m + 1) c2).ownBlock = some q → W.heap.size ≤ q ∧ q < w2.heap.size := fun q hq => OwnM.lt HO2.out q hq
              have HBz : Hid (Below W.heap.size W w3) := HBy.out.grown HG3.out HBy.out.size (fun q hq => (hob q hq).1)
              have HFIN : Hid (OwnL w3 w.heap.size 59 3 Lg.cs (.slice A3 (m + 1 + (0)) c3) (insAll ltL [] (L.take (k + 1)))) := by
                show OwnL _ _ _ _ _ _ _
                rw [HNEW.out]
                exact OwnM.lower (OwnL.assoc HO3.out) hsW
              have HBF : Hid (Below w.heap.size w w3) := HBW.out.trans (HBz.out.mono hsW)
              clear hob HG3 HO3 HO2 HRS2 HBy HBz HS2 HSO HNEW
              go_wp2_with fail
              exact ⟨⟨k + 1, A3, m + 1 + (0), c3, by rw [show 3 * (k + 1) = q + 3 by have := HQ.out; omega]; go_num, rfl, by omega, by omega, HFIN.out, HBF.out⟩, by have h1 := HQ.out; have h2 := HN3.out; simp [intOf]; omega⟩
            · have hmc3 : m < c := by omega
              clear hmc2
              go_wp2_with fail
              go_quiet (fail)
              go_wp2_with fail
              go_quiet (fail)
              go_upto_region 11 with fail
              refine wp_name fun W hW => ?_
              have HOW : Hid (OwnL W w.heap.size 59 3 Lg.cs (.slice (some ⟨b1, 0, none⟩) m c) S) := by rw [hW]; exact HO.out
              have HBW : Hid (Below w.heap.size w W) := by rw [hW]; exact below_drewN (below_drewN HB.out _) _
              have HXB' := HXB
              clear HXB
              have HXB : Hid (CellsAt W g #[.int .u32 (x.g : Nat), .int .u32 (x.a : Nat), .int .u32 (x.b : Nat)] 59) := by rw [hW]; exact (HXB'.out.drew _).drew _
              clear hW HO HB HXB'
              have hsW := HBW.out.size
              have HSO : Hid (∀ X, Below W.heap.size W X → OwnL X w.heap.size 59 3 Lg.cs (.slice (some ⟨b1, 0, none⟩) m c) S) := fun X hX => OwnL.below HOW.out hX (Nat.le_refl _)
              have HRS := Lib.hid (rd_of Lg.cs_len HOW.out).1
              have HR1 : Hid (Rd W (some ⟨b1, 0, none⟩) 3 ((S.take m).map Lg.cs)) := rd_take HRS.out m
              have HL1 : Hid (m = (S.take m).length) := by show _ = _; rw [List.length_take, ← HM.out]; omega
              have HL2 : Hid (0 = (S.drop m).length) := by show _ = _; rw [List.length_drop]; have := HM.out; omega
              have HBW1 : Hid (∀ j : Nat, j ≤ 1048577 → j ≤ maxLen ∧ j * 12 ≤ 140737488355328) := fun j hj => ⟨by unfold maxLen; omega, by omega⟩
              have HN0 : Hid (OwnL W W.heap.size 59 3 Lg.cs (.slice none 0 0) []) := OwnL.nil _ _ _ _ _
              have htc : (m : Int) ≤ (c : Int) := by omega
              have htm2 : (m : Int) ≤ (m : Int) := by omega
              go_wp2_with (at_builtin; refine wpList_more Tryz.underlying38 _ infoLg rfl (by decide) Lg.cs_len Lg.ones rfl (.tmp 59) (.tmp 62) rfl W.heap.size none 0 0 [] rfl rfl HN0.out (S.take m) (some ⟨b1, 0, none⟩) m c HL1.out rfl HR1.out (Nat.le_refl _) (by rw [Nat.zero_add]; exact (HBW1.out m (by omega)).1) (by rw [Nat.zero_add]; exact (HBW1.out m (by omega)).2) ?_)
              intro A1 c1 w1 HO1 HG1
              have HBx : Hid (Below W.heap.size W w1) := (Below.refl _ _).grown HG1.out (Nat.le_refl _) (fun q hq => by cases hq)
              have HO1' : Hid (OwnL w1 W.heap.size 59 3 Lg.cs (.slice A1 m c1) (S.take m)) := HO1.out
              have HB1 : Hid (Below w.heap.size w w1) := HBW.out.trans (HBx.out.mono hsW)
              have HS1 := Lib.hid (OwnL.below HOW.out HBx.out (Nat.le_refl _))
              have hs1 := HBx.out.size
              clear HO1 HG1 HN0 HR1 HOW HRS
              have HXB1 : Hid (CellsAt w1 g #[.int .u32 (x.g : Nat), .int .u32 (x.a : Nat), .int .u32 (x.b : Nat)] 59) := HXB.out.below HBx.out (HXB.out.lt)
              obtain ⟨p0, p1, p2⟩ := CellsAt.c3 HXB1.out
              have HCB : Hid (CellsAt (w1.alloc (.cells #[.int .u32 (x.g : Nat), .int .u32 (x.a : Nat), .int .u32 (x.b : Nat)] 59)) w1.heap.size #[.int .u32 (x.g : Nat), .int .u32 (x.a : Nat), .int .u32 (x.b : Nat)] 59) := CellsAt.new _ _ _
              have HRB : Hid (Rd (w1.alloc (.cells #[.int .u32 (x.g : Nat), .int .u32 (x.a : Nat), .int .u32 (x.b : Nat)] 59)) (some ⟨w1.heap.size, 0, none⟩) 3 ([x].map Lg.cs)) := rd_new1 HCB.out rfl
              have HOa : Hid (OwnL (w1.alloc (.cells #[.int .u32 (x.g : Nat), .int .u32 (x.a : Nat), .int .u32 (x.b : Nat)] 59)) W.heap.size 59 3 Lg.cs (.slice A1 m c1) (S.take m)) := HO1'.out.alloc _
              have HBa : Hid (Below W.heap.size W (w1.alloc (.cells #[.int .u32 (x.g : Nat), .int .u32 (x.a : Nat), .int .u32 (x.b : Nat)] 59))) := HBx.out.alloc hs1 _
              go_wp2_with (at_builtin; refine wpList_more Tryz.underlying38 _ infoLg rfl (by decide) Lg.cs_len Lg.ones rfl (.tmp 64) (.tmp 66) rfl W.heap.size A1 m c1 (S.take m) HL1.out rfl HOa.out [x] (some ⟨w1.heap.size, 0, none⟩) 1 1 rfl rfl HRB.out HBa.out.size (HBW1.out (m + 1) (by omega)).1 (HBW1.out (m + 1) (by omega)).2 ?_)
              intro A2 c2 w2 HO2 HG2
              have hob : ∀ q, (Value.slice A1 m c1).ownBlock = some q → W.heap.size ≤ q ∧ q < (w1.alloc (.cells #[.int .u32 (x.g : Nat), .int .u32 (x.a : Nat), .int .u32 (x.b : Nat)] 59)).heap.size := fun q hq => OwnM.lt HOa.out q hq
              have HBy : Hid (Below W.heap.size W w2) := HBa.out.grown HG2.out HBa.out.size (fun q hq => (hob q hq).1)
              have HL3 : Hid (m + 1 = (S.take m ++ [x]).length) := by show _ = _; rw [List.length_append, ← HL1.out]; rfl
              have HS2 := Lib.hid (HSO.out _ HBy.out)
              have HRS2 : Hid (Rd w2 (some ⟨b1, m * 3, none⟩) 3 ((S.drop m).map Lg.cs)) := by have h2 : S.drop m = [] := List.drop_eq_nil_of_le (by rw [← HM.out]; exact Nat.le_refl _); rw [h2]; intro h3; exact absurd h3 (by simp)
              clear p0 p1 p2 HXB1 HBa HOa HRB HCB HG2 hob HS1 HO1'
              go_wp2_with (at_builtin; refine wpList_more Tryz.underlying38 _ infoLg rfl (by decide) Lg.cs_len Lg.ones rfl (.tmp 68) (.tmp 71) rfl W.heap.size A2 (m + 1) c2 (S.take m ++ [x]) HL3.out rfl HO2.out (S.drop m) (some ⟨b1, m * 3, none⟩) (0) (c - m) HL2.out rfl HRS2.out HBy.out.size (HBW1.out (m + 1 + (0)) (by omega)).1 (HBW1.out (m + 1 + (0)) (by omega)).2 ?_)
              intro A3 c3 w3 HO3 HG3
              have hob : ∀ q, (Value.slice A2 (m + 1) c2).ownBlock = some q → W.heap.size ≤ q ∧ q < w2.heap.size := fun q hq => OwnM.lt HO2.out q hq
              have HBz : Hid (Below W.heap.size W w3) := HBy.out.grown HG3.out HBy.out.size (fun q hq => (hob q hq).1)
              have HFIN : Hid (OwnL w3 w.heap.size 59 3 Lg.cs (.slice A3 (m + 1 + (0)) c3) (insAll ltL [] (L.take (k + 1)))) := by
                show OwnL _ _ _ _ _ _ _
                rw [HNEW.out]
                exact OwnM.lower (OwnL.assoc HO3.out) hsW
              have HBF : Hid (Below w.heap.size w w3) := HBW.out.trans (HBz.out.mono hsW)
              clear hob HG3 HO3 HO2 HRS2 HBy HBz HS2 HSO HNEW
              go_wp2_with fail
              exact ⟨⟨k + 1, A3, m + 1 + (0), c3, by rw [show 3 * (k + 1) = q + 3 by have := HQ.out; omega]; go_num, rfl, by omega, by omega, HFIN.out, HBF.out⟩, by have h1 := HQ.out; have h2 := HN3.out; simp [intOf]; omega⟩
    · have HE : Hid (OwnL wr w.heap.size 59 3 Lg.cs (.slice B m c) (insAll ltL [] L)) := by
        have h2 := HO.out
        rwa [List.take_of_length_le (by rw [← HN.out]; omega)] at h2
      have hge : ¬ ((3 * k : Nat) : Int) + 2 < (n3 : Int) := by have := HN3.out; omega
      obtain ⟨q, hq⟩ : ∃ q, q = 3 * k := ⟨_, rfl⟩
      have hqb : q ≤ 4000000 := by omega
      rw [← hq] at hge ⊢
      clear HO hq
      go_wp2_with fail
      go_ret
      exact ⟨⟨_, rfl, HE.out⟩, HB.out⟩
end Go.Proofs.YtkcojblflebomaaGreat
