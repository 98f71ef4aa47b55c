/-
  Several texts in one.
-/
import Derived.Test.YtldpcliahfiloaaGreatPW38
set_option linter.unusedVariables false
set_option linter.unusedSimpArgs false
namespace Go.Proofs.YtldpcliahfiloaaGreat
open Go.RowKit Go.MapKept Go.Shelf
open Go.ChangeShapes Go.WideShapes Go.ChangeAt
open Go.ChangeMaps (open_string shut_string)
open Go.Lib hiding intOf
open Go.Sort hiding Below

theorem r1ord_any (x y : Int) (w : World) : Calls Tryz.prog 100 #[.int .i64 x, .int .i64 y] w fun e w' => e = .returned (.int .i64 (Lib.compareInt x y)) ∧ w' = w := by
  unfold Lib.compareInt
  rcases Int.lt_trichotomy x y with h | h | h
  · have h2 : ¬ y < x := by omega
    rw [if_pos h]
    go_enter Tryz.func100, Tryz.ntmps100
    go_wp2_with fail
    go_ret
    exact ⟨rfl, rfl⟩
  · subst h
    rw [if_neg (Int.lt_irrefl x), if_neg (Int.lt_irrefl x)]
    go_enter Tryz.func100, Tryz.ntmps100
    go_wp2_with fail
    go_ret
    exact ⟨rfl, rfl⟩
  · have h2 : ¬ x < y := by omega
    rw [if_neg h2, if_pos h]
    go_enter Tryz.func100, Tryz.ntmps100
    go_wp2_with fail
    go_ret
    exact ⟨rfl, rfl⟩
theorem run_index_str (w : World) (s : ByteArray) (k : Nat) (x : UInt8) (hx : s.data.toList[k]? = some x) {z : Int} (hz : (k : Int) = z) : (Instr.index 9 (.string s) (.int .i64 z)).run Tryz.prog w = .ok (.int .u8 (x.toNat : Nat)) w := by
  subst hz
  have hk := (List.getElem?_eq_some_iff.1 hx).1
  have e : s.data.toList.length = s.size := by rw [Array.length_toList]; rfl
  have hlt : k < s.size := by omega
  have hg : s[k] = x := by
    have := (List.getElem?_eq_some_iff.1 hx).2
    rw [← this]
    rfl
  simp [go_sem, hlt, hg]
theorem ci_ne {x y : Int} (h : x ≠ y) : Lib.compareInt x y ≠ 0 := by unfold Lib.compareInt; repeat' split <;> omega
theorem ci_eq (x : Int) : Lib.compareInt x x = 0 := by unfold Lib.compareInt; rw [if_neg (Int.lt_irrefl x), if_neg (Int.lt_irrefl x)]
theorem ci_lt {x y : Int} (h : x < y) : Lib.compareInt x y = -1 := by unfold Lib.compareInt; rw [if_pos h]
theorem ci_gt {x y : Int} (h : y < x) : Lib.compareInt x y = 1 := by unfold Lib.compareInt; rw [if_neg (by omega), if_pos h]
theorem cb_eq {p : UInt8} {a b : List UInt8} : Lib.compareBytes (p :: a) (p :: b) = Lib.compareBytes a b := by
  conv => lhs; unfold Lib.compareBytes
  rw [if_neg (UInt8.lt_irrefl p), if_neg (UInt8.lt_irrefl p)]
theorem cb_ne {p q : UInt8} {a b : List UInt8} (h : p ≠ q) : Lib.compareBytes (p :: a) (q :: b) = Lib.compareInt (p.toNat : Int) (q.toNat : Int) := by
  unfold Lib.compareBytes
  rcases u8_cases p q with ⟨h1, h2⟩ | h1 | ⟨h1, h2⟩
  · rw [if_pos h1, ci_lt (by have := UInt8.lt_iff_toNat_lt.1 h1; omega)]
  · exact absurd h1 h
  · rw [if_neg h2, if_pos h1, ci_gt (by have := UInt8.lt_iff_toNat_lt.1 h1; omega)]
theorem cb_nil_l (b : List UInt8) : Lib.compareBytes [] b = Lib.compareInt 0 (b.length : Int) := by
  cases b with
  | nil => rfl
  | cons x r => unfold Lib.compareBytes; rw [ci_lt (by simp only [List.length_cons]; omega)]
theorem cb_nil_r (b : List UInt8) : Lib.compareBytes b [] = Lib.compareInt (b.length : Int) 0 := by
  cases b with
  | nil => rfl
  | cons x r => unfold Lib.compareBytes; rw [ci_gt (by simp only [List.length_cons]; omega)]
theorem pc_fam {x y : Pk} (h : x.fam ≠ y.fam) : pcF x y = Lib.compareInt x.fam y.fam := by unfold pcF roF; rw [if_neg (ci_ne h)]
theorem pc_rd {x y : Pk} (h : x.fam = y.fam) (h2 : x.rd ≠ y.rd) : pcF x y = Lib.compareInt x.rd y.rd := by
  unfold pcF roF
  rw [h, if_pos (ci_eq _), if_neg (ci_ne h2)]
theorem pc_addr {x y : Pk} (h : x.fam = y.fam) (h2 : x.rd = y.rd) : pcF x y = roF (Lib.compareBytes x.addr.data.toList y.addr.data.toList) (Lib.compareInt x.len y.len) := by
  unfold pcF
  rw [h, h2]
  conv => lhs; unfold roF
  rw [if_pos (ci_eq _)]
  unfold roF
  rw [if_pos (ci_eq _)]
/-- how far two addresses are alike -/
def CbQ (x y : ByteArray) (n : Nat) : Prop := n ≤ x.size ∧ n ≤ y.size ∧ Lib.compareBytes x.data.toList y.data.toList = Lib.compareBytes (x.data.toList.drop n) (y.data.toList.drop n)
theorem ba_len (s : ByteArray) : s.data.toList.length = s.size := by rw [Array.length_toList]; rfl
theorem CbQ.next {x y : ByteArray} {n : Nat} {p : UInt8} (h : CbQ x y n) (hx : x.data.toList[n]? = some p) (hy : y.data.toList[n]? = some p) : CbQ x y (n + 1) := by
  obtain ⟨a1, a2⟩ := List.getElem?_eq_some_iff.1 hx
  obtain ⟨b1, b2⟩ := List.getElem?_eq_some_iff.1 hy
  have e1 := ba_len x
  have e2 := ba_len y
  refine ⟨by omega, by omega, ?_⟩
  rw [h.2.2, List.drop_eq_getElem_cons a1, List.drop_eq_getElem_cons b1, a2, b2, cb_eq]
theorem CbQ.stop {x y : ByteArray} {n : Nat} {p q : UInt8} (h : CbQ x y n) (hx : x.data.toList[n]? = some p) (hy : y.data.toList[n]? = some q) (hne : p ≠ q) : Lib.compareBytes x.data.toList y.data.toList = Lib.compareInt (p.toNat : Int) (q.toNat : Int) := by
  obtain ⟨a1, a2⟩ := List.getElem?_eq_some_iff.1 hx
  obtain ⟨b1, b2⟩ := List.getElem?_eq_some_iff.1 hy
  rw [h.2.2, List.drop_eq_getElem_cons a1, List.drop_eq_getElem_cons b1, a2, b2, cb_ne hne]
theorem ci_shift (a b c : Int) : Lib.compareInt (a - c) (b - c) = Lib.compareInt a b := by unfold Lib.compareInt; repeat' split <;> omega
theorem CbQ.fin {x y : ByteArray} {n : Nat} (h : CbQ x y n) (hn : ¬ (n < x.size ∧ n < y.size)) : Lib.compareBytes x.data.toList y.data.toList = Lib.compareInt (x.size : Int) (y.size : Int) := by
  have e1 := ba_len x
  have e2 := ba_len y
  have h1 := h.1
  have h2 := h.2.1
  rw [h.2.2]
  by_cases hx : n < x.size
  · have hy : n = y.size := by omega
    have h0 : y.data.toList.drop n = [] := List.drop_eq_nil_of_le (by omega)
    rw [h0, cb_nil_r, List.length_drop, e1, ← ci_shift (x.size : Int) y.size y.size]
    congr 1 <;> omega
  · have hy : n = x.size := by omega
    have h0 : x.data.toList.drop n = [] := List.drop_eq_nil_of_le (by omega)
    rw [h0, cb_nil_l, List.length_drop, e2, ← ci_shift (x.size : Int) y.size x.size]
    congr 1 <;> omega
set_option maxRecDepth 100000 in
set_option maxHeartbeats 8000000 in
theorem r1cmp_any (x y : Pk) (hx : x.Ok) (hy : y.Ok) (w : World) : Calls Tryz.prog 78 #[.agg x.pf, .agg y.pf] w fun e w' => e = .returned (.int .i64 (pcF x y)) ∧ Below w.heap.size w w' := by
  have HO := Lib.hid r1ord_any
  have hxa := hx.addr
  have hya := hy.addr
  clear hx hy
  obtain ⟨P, hP⟩ : ∃ P, P = pcF x y := ⟨_, rfl⟩
  rw [← hP]
  have HPc := Lib.hid hP
  clear hP
  unfold Pk.pf
  go_enter Tryz.func78, Tryz.ntmps78
  go_upto_region 1 with fail
  refine rb_name fun V hV => ?_
  obtain ⟨s, hs⟩ : ∃ s, s = w.heap.size := ⟨_, rfl⟩
  have HX0 : Hid (CellsAt V s #[.int .i64 x.fam, .int .u64 x.rd, .string x.addr, .int .i64 x.len] 32) := by rw [hV, hs]; exact (CellsAt.new _ _ _).alloc _
  have HY0 : Hid (CellsAt V (s + 1) #[.int .i64 y.fam, .int .u64 y.rd, .string y.addr, .int .i64 y.len] 32) := by
    have h := CellsAt.new (w.alloc (.cells #[.int .i64 x.fam, .int .u64 x.rd, .string x.addr, .int .i64 x.len] 32)) #[.int .i64 y.fam, .int .u64 y.rd, .string y.addr, .int .i64 y.len] 32
    rw [World.size_alloc] at h
    rw [hV, hs]
    exact h
  have HB : Hid (Below w.heap.size w V) := by rw [hV]; exact ((Below.refl _ _).alloc (Nat.le_refl _) _).alloc (by simp) _
  rw [← hs]
  clear hV hs
  obtain ⟨a0, a1, a2, a3⟩ := HX0.out.c4
  obtain ⟨b0, b1, b2, b3⟩ := HY0.out.c4
  by_cases h1 : x.fam = y.fam
  · by_cases h2 : x.rd = y.rd
    · have HPa := Lib.hid (HPc.out.trans (pc_addr h1 h2))
      clear HPc
      rw [← h1] at b0
      rw [← h2] at b1
      clear h1 h2
      go_wp2_with fail
      go_loopw [5] (fun i wr => ∃ n : Nat, i = .int .i64 n ∧ Hid (CbQ x.addr y.addr n) ∧ Hid (Below V.heap.size V wr)) (fun i _ => x.addr.size + 1 - (intOf i).toNat)
      case atStart => exact ⟨0, rfl, ⟨by omega, by omega, rfl⟩, Below.refl _ _⟩
      case round =>
        clear a0 a1 a2 a3 b0 b1 b2 b3
        obtain ⟨wq, hwq⟩ : ∃ x, x = wr := ⟨_, rfl⟩
        subst hwq
        obtain ⟨n, rfl, HQ, HBq⟩ := hrel
        have HX : Hid (∀ W, Below wq.heap.size wq W → W.cell? ⟨s, 2, none⟩ = some (.string x.addr)) := fun W hW => ((HX0.out.below (HBq.out.trans (hW.mono HBq.out.size)) HX0.out.lt).c 2).trans rfl
        have HY : Hid (∀ W, Below wq.heap.size wq W → W.cell? ⟨s + 1, 2, none⟩ = some (.string y.addr)) := fun W hW => ((HY0.out.below (HBq.out.trans (hW.mono HBq.out.size)) HY0.out.lt).c 2).trans rfl
        have a2 := HX.out wq (Below.refl _ _)
        have b2 := HY.out wq (Below.refl _ _)
        by_cases hn : n < x.addr.size ∧ n < y.addr.size
        · obtain ⟨hn1, hn2⟩ := hn
          obtain ⟨p, hp⟩ : ∃ p, x.addr.data.toList[n]? = some p := ⟨x.addr.data.toList[n]'(by rw [ba_len]; exact hn1), List.getElem?_eq_getElem _⟩
          obtain ⟨q, hq⟩ : ∃ p, y.addr.data.toList[n]? = some p := ⟨y.addr.data.toList[n]'(by rw [ba_len]; exact hn2), List.getElem?_eq_getElem _⟩
          have i1 : ∀ w, (Instr.index 9 (.string x.addr) (.int .i64 n)).run Tryz.prog w = .ok (.int .u8 (p.toNat : Nat)) w := fun w => run_index_str w x.addr n p hp rfl
          have i2 : ∀ w, (Instr.index 9 (.string y.addr) (.int .i64 n)).run Tryz.prog w = .ok (.int .u8 (q.toNat : Nat)) w := fun w => run_index_str w y.addr n q hq rfl
          have hp8 := p.toNat_lt
          have hq8 := q.toNat_lt
          by_cases hpq : p = q
          · subst hpq
            have HQ2 := Lib.hid (HQ.out.next hp hq)
            clear hp hq HQ
            go_upto_region 10 with fail
            refine wp_region_held_drew (S := fun w' => Below wq.heap.size wq w') (by kernel_rfl) (below_drewN (Below.refl _ _) 1) (fun hHeld => ?_)
            refine wpAnyH_take (i := 0) (oi := { dst := some 40, op := Op.fieldAddr 32 (Operand.tmp 2) 2, type := 0, pos := "ref.go:76", after := #[], guard := none }) (v := ?_) rfl (by kernel_rfl) (by kernel_rfl) (by kernel_rfl) (fun _ _ _ h => h) (Or.inl ⟨by rfl, ?_⟩) hHeld ?_
            rotate_left
            · intro w hSw
              clear hSw
              go_simp
              try with_reducible rfl
            try simp only [Act.put, List.setIfInBounds_toArray, List.set_cons_zero, List.set_cons_succ]
            refine wpAnyH_take (i := 1) (oi := { dst := some 41, op := Op.load 9 (Operand.tmp 40), type := 9, pos := "ref.go:76", after := #[{ on := 0, ground := Ground.data }], guard := none }) (v := ?_) rfl (by kernel_rfl) (by kernel_rfl) (by kernel_rfl) (fun _ _ _ h => h) (Or.inl ⟨by rfl, ?_⟩) hHeld ?_
            rotate_left
            · intro w hSw
              have a2 := HX.out w hSw
              have b2 := HY.out w hSw
              go_simp
              try with_reducible rfl
            try simp only [Act.put, List.setIfInBounds_toArray, List.set_cons_zero, List.set_cons_succ]
            refine wpAnyH_take (i := 2) (oi := { dst := some 42, op := Op.move (Operand.tmp 5), type := 3, pos := "ref.go:76", after := #[], guard := none }) (v := ?_) rfl (by kernel_rfl) (by kernel_rfl) (by kernel_rfl) (fun _ _ _ h => h) (Or.inl ⟨by rfl, ?_⟩) hHeld ?_
            rotate_left
            · intro w hSw
              clear hSw
              go_simp
              try with_reducible rfl
            try simp only [Act.put, List.setIfInBounds_toArray, List.set_cons_zero, List.set_cons_succ]
            refine wpAnyH_take (i := 3) (oi := { dst := some 43, op := Op.index 9 (Operand.tmp 41) (Operand.tmp 42), type := 5, pos := "ref.go:76", after := #[{ on := 1, ground := Ground.data }, { on := 2, ground := Ground.data }], guard := none }) (v := ?_) rfl (by kernel_rfl) (by kernel_rfl) (by kernel_rfl) (fun _ _ _ h => h) (Or.inl ⟨by rfl, ?_⟩) hHeld ?_
            rotate_left
            · intro w hSw
              clear hSw
              go_simp
              try with_reducible rfl
            try simp only [Act.put, List.setIfInBounds_toArray, List.set_cons_zero, List.set_cons_succ]
            refine wpAnyH_take (i := 4) (oi := { dst := some 44, op := Op.fieldAddr 32 (Operand.tmp 3) 2, type := 0, pos := "ref.go:76", after := #[], guard := none }) (v := ?_) rfl (by kernel_rfl) (by kernel_rfl) (by kernel_rfl) (fun _ _ _ h => h) (Or.inl ⟨by rfl, ?_⟩) hHeld ?_
            rotate_left
            · intro w hSw
              clear hSw
              go_simp
              try with_reducible rfl
            try simp only [Act.put, List.setIfInBounds_toArray, List.set_cons_zero, List.set_cons_succ]
            refine wpAnyH_take (i := 5) (oi := { dst := some 45, op := Op.load 9 (Operand.tmp 44), type := 9, pos := "ref.go:76", after := #[{ on := 4, ground := Ground.data }], guard := none }) (v := ?_) rfl (by kernel_rfl) (by kernel_rfl) (by kernel_rfl) (fun _ _ _ h => h) (Or.inl ⟨by rfl, ?_⟩) hHeld ?_
            rotate_left
            · intro w hSw
              have a2 := HX.out w hSw
              have b2 := HY.out w hSw
              go_simp
              try with_reducible rfl
            try simp only [Act.put, List.setIfInBounds_toArray, List.set_cons_zero, List.set_cons_succ]
            refine wpAnyH_take (i := 6) (oi := { dst := some 46, op := Op.move (Operand.tmp 5), type := 3, pos := "ref.go:76", after := #[], guard := none }) (v := ?_) rfl (by kernel_rfl) (by kernel_rfl) (by kernel_rfl) (fun _ _ _ h => h) (Or.inl ⟨by rfl, ?_⟩) hHeld ?_
            rotate_left
            · intro w hSw
              clear hSw
              go_simp
              try with_reducible rfl
            try simp only [Act.put, List.setIfInBounds_toArray, List.set_cons_zero, List.set_cons_succ]
            refine wpAnyH_take (i := 7) (oi := { dst := some 47, op := Op.index 9 (Operand.tmp 45) (Operand.tmp 46), type := 5, pos := "ref.go:76", after := #[{ on := 5, ground := Ground.data }, { on := 6, ground := Ground.data }], guard := none }) (v := ?_) rfl (by kernel_rfl) (by kernel_rfl) (by kernel_rfl) (fun _ _ _ h => h) (Or.inl ⟨by rfl, ?_⟩) hHeld ?_
            rotate_left
            · intro w hSw
              clear hSw
              go_simp
              try with_reducible rfl
            try simp only [Act.put, List.setIfInBounds_toArray, List.set_cons_zero, List.set_cons_succ]
            refine wpAnyH_take (i := 8) (oi := { dst := some 48, op := Op.binOp BinOp.neq 5 (Operand.tmp 43) (Operand.tmp 47) 5, type := 4, pos := "ref.go:76", after := #[{ on := 3, ground := Ground.data }, { on := 7, ground := Ground.data }], guard := none }) (v := ?_) rfl (by kernel_rfl) (by kernel_rfl) (by kernel_rfl) (fun _ _ _ h => h) (Or.inl ⟨by rfl, ?_⟩) hHeld ?_
            rotate_left
            · intro w hSw
              clear hSw
              go_simp
              try with_reducible rfl
            try simp only [Act.put, List.setIfInBounds_toArray, List.set_cons_zero, List.set_cons_succ]
            refine wpAnyH_done (by kernel_rfl) ?_ _
            go_upto_region 9 with fail
            have HB2 : Hid (Below V.heap.size V _) := HBq.out.trans (hHeld.mono HBq.out.size)
            clear hHeld
            go_wp2_with fail
            exact ⟨⟨n + 1, by go_num, HQ2.out, HB2.out⟩, by simp [intOf]; omega⟩
          · have hst := HQ.out.stop hp hq hpq
            have hne : ((p.toNat : Nat) : Int) ≠ (q.toNat : Nat) := fun e => hpq (UInt8.toNat_inj.1 (by omega))
            have hro : roF (Lib.compareInt (p.toNat : Int) (q.toNat : Int)) (Lib.compareInt x.len y.len) = Lib.compareInt (p.toNat : Int) (q.toNat : Int) := by unfold roF; rw [if_neg (ci_ne hne)]
            obtain rfl : P = Lib.compareInt (p.toNat : Int) (q.toNat : Int) := by rw [HPa.out, hst, hro]
            clear hp hq HQ hst hro hpq HPa
            generalize hPP : ((p.toNat : Nat) : Int) = PP at *
            generalize hQQ : ((q.toNat : Nat) : Int) = QQ at *
            have hc1 : IntKind.i64.wrap PP = PP := IntWalk.i64_in _ (by omega)
            have hc2 : IntKind.i64.wrap QQ = QQ := IntWalk.i64_in _ (by omega)
            have hne1 : (PP != QQ) = true := bne_iff_ne.2 hne
            have hne2 : (PP == QQ) = false := beq_false_of_ne hne
            have HPP := Lib.hid hPP
            have HQQ := Lib.hid hQQ
            clear hPP hQQ hp8 hq8
            go_upto_region 10 with fail
            refine wp_region_held_drew (S := fun w' => Below wq.heap.size wq w') (by kernel_rfl) (below_drewN (Below.refl _ _) 1) (fun hHeld => ?_)
            refine wpAnyH_take (i := 0) (oi := { dst := some 40, op := Op.fieldAddr 32 (Operand.tmp 2) 2, type := 0, pos := "ref.go:76", after := #[], guard := none }) (v := ?_) rfl (by kernel_rfl) (by kernel_rfl) (by kernel_rfl) (fun _ _ _ h => h) (Or.inl ⟨by rfl, ?_⟩) hHeld ?_
            rotate_left
            · intro w hSw
              clear hSw
              go_simp
              try with_reducible rfl
            try simp only [Act.put, List.setIfInBounds_toArray, List.set_cons_zero, List.set_cons_succ]
            refine wpAnyH_take (i := 1) (oi := { dst := some 41, op := Op.load 9 (Operand.tmp 40), type := 9, pos := "ref.go:76", after := #[{ on := 0, ground := Ground.data }], guard := none }) (v := ?_) rfl (by kernel_rfl) (by kernel_rfl) (by kernel_rfl) (fun _ _ _ h => h) (Or.inl ⟨by rfl, ?_⟩) hHeld ?_
            rotate_left
            · intro w hSw
              have a2 := HX.out w hSw
              have b2 := HY.out w hSw
              go_simp
              try with_reducible rfl
            try simp only [Act.put, List.setIfInBounds_toArray, List.set_cons_zero, List.set_cons_succ]
            refine wpAnyH_take (i := 2) (oi := { dst := some 42, op := Op.move (Operand.tmp 5), type := 3, pos := "ref.go:76", after := #[], guard := none }) (v := ?_) rfl (by kernel_rfl) (by kernel_rfl) (by kernel_rfl) (fun _ _ _ h => h) (Or.inl ⟨by rfl, ?_⟩) hHeld ?_
            rotate_left
            · intro w hSw
              clear hSw
              go_simp
              try with_reducible rfl
            try simp only [Act.put, List.setIfInBounds_toArray, List.set_cons_zero, List.set_cons_succ]
            refine wpAnyH_take (i := 3) (oi := { dst := some 43, op := Op.index 9 (Operand.tmp 41) (Operand.tmp 42), type := 5, pos := "ref.go:76", after := #[{ on := 1, ground := Ground.data }, { on := 2, ground := Ground.data }], guard := none }) (v := ?_) rfl (by kernel_rfl) (by kernel_rfl) (by kernel_rfl) (fun _ _ _ h => h) (Or.inl ⟨by rfl, ?_⟩) hHeld ?_
            rotate_left
            · intro w hSw
              clear hSw
              go_simp
              try with_reducible rfl
            try simp only [Act.put, List.setIfInBounds_toArray, List.set_cons_zero, List.set_cons_succ]
            refine wpAnyH_take (i := 4) (oi := { dst := some 44, op := Op.fieldAddr 32 (Operand.tmp 3) 2, type := 0, pos := "ref.go:76", after := #[], guard := none }) (v := ?_) rfl (by kernel_rfl) (by kernel_rfl) (by kernel_rfl) (fun _ _ _ h => h) (Or.inl ⟨by rfl, ?_⟩) hHeld ?_
            rotate_left
            · intro w hSw
              clear hSw
              go_simp
              try with_reducible rfl
            try simp only [Act.put, List.setIfInBounds_toArray, List.set_cons_zero, List.set_cons_succ]
            refine wpAnyH_take (i := 5) (oi := { dst := some 45, op := Op.load 9 (Operand.tmp 44), type := 9, pos := "ref.go:76", after := #[{ on := 4, ground := Ground.data }], guard := none }) (v := ?_) rfl (by kernel_rfl) (by kernel_rfl) (by kernel_rfl) (fun _ _ _ h => h) (Or.inl ⟨by rfl, ?_⟩) hHeld ?_
            rotate_left
            · intro w hSw
              have a2 := HX.out w hSw
              have b2 := HY.out w hSw
              go_simp
              try with_reducible rfl
            try simp only [Act.put, List.setIfInBounds_toArray, List.set_cons_zero, List.set_cons_succ]
            refine wpAnyH_take (i := 6) (oi := { dst := some 46, op := Op.move (Operand.tmp 5), type := 3, pos := "ref.go:76", after := #[], guard := none }) (v := ?_) rfl (by kernel_rfl) (by kernel_rfl) (by kernel_rfl) (fun _ _ _ h => h) (Or.inl ⟨by rfl, ?_⟩) hHeld ?_
            rotate_left
            · intro w hSw
              clear hSw
              go_simp
              try with_reducible rfl
            try simp only [Act.put, List.setIfInBounds_toArray, List.set_cons_zero, List.set_cons_succ]
            refine wpAnyH_take (i := 7) (oi := { dst := some 47, op := Op.index 9 (Operand.tmp 45) (Operand.tmp 46), type := 5, pos := "ref.go:76", after := #[{ on := 5, ground := Ground.data }, { on := 6, ground := Ground.data }], guard := none }) (v := ?_) rfl (by kernel_rfl) (by kernel_rfl) (by kernel_rfl) (fun _ _ _ h => h) (Or.inl ⟨by rfl, ?_⟩) hHeld ?_
            rotate_left
            · intro w hSw
              clear hSw
              go_simp
              try with_reducible rfl
            try simp only [Act.put, List.setIfInBounds_toArray, List.set_cons_zero, List.set_cons_succ]
            refine wpAnyH_take (i := 8) (oi := { dst := some 48, op := Op.binOp BinOp.neq 5 (Operand.tmp 43) (Operand.tmp 47) 5, type := 4, pos := "ref.go:76", after := #[{ on := 3, ground := Ground.data }, { on := 7, ground := Ground.data }], guard := none }) (v := ?_) rfl (by kernel_rfl) (by kernel_rfl) (by kernel_rfl) (fun _ _ _ h => h) (Or.inl ⟨by rfl, ?_⟩) hHeld ?_
            rotate_left
            · intro w hSw
              clear hSw
              go_simp
              try with_reducible rfl
            try simp only [Act.put, List.setIfInBounds_toArray, List.set_cons_zero, List.set_cons_succ]
            refine wpAnyH_done (by kernel_rfl) ?_ _
            go_upto_region 11 with fail
            obtain ⟨wz, hwz⟩ : ∃ x, x = wq.drew := ⟨_, rfl⟩
            try rw [← hwz]
            have HXz : Hid (∀ W, Below wz.heap.size wz W → W.cell? ⟨s, 2, none⟩ = some (.string x.addr)) := fun W hW => HX.out W (by rw [hwz] at hW; exact (below_drewN (Below.refl _ _) 1).trans hW)
            have HYz : Hid (∀ W, Below wz.heap.size wz W → W.cell? ⟨s + 1, 2, none⟩ = some (.string y.addr)) := fun W hW => HY.out W (by rw [hwz] at hW; exact (below_drewN (Below.refl _ _) 1).trans hW)
            have HBz : Hid (Below V.heap.size V wz) := by rw [hwz]; exact HBq.out.trans ((below_drewN (Below.refl _ _) 1).mono HBq.out.size)
            clear hwz HX HY HBq hHeld
            refine wp_region_held_drew (S := fun w' => Below wz.heap.size wz w') (by kernel_rfl) (below_drewN (Below.refl _ _) 1) (fun hHeld => ?_)
            refine wpAnyH_take (i := 0) (oi := { dst := some 49, op := Op.fieldAddr 32 (Operand.tmp 2) 2, type := 0, pos := "ref.go:77", after := #[], guard := none }) (v := ?_) rfl (by kernel_rfl) (by kernel_rfl) (by kernel_rfl) (fun _ _ _ h => h) (Or.inl ⟨by rfl, ?_⟩) hHeld ?_
            rotate_left
            · intro w hSw
              clear hSw
              go_simp
              try with_reducible rfl
            try simp only [Act.put, List.setIfInBounds_toArray, List.set_cons_zero, List.set_cons_succ]
            refine wpAnyH_take (i := 1) (oi := { dst := some 50, op := Op.load 9 (Operand.tmp 49), type := 9, pos := "ref.go:77", after := #[{ on := 0, ground := Ground.data }], guard := none }) (v := ?_) rfl (by kernel_rfl) (by kernel_rfl) (by kernel_rfl) (fun _ _ _ h => h) (Or.inl ⟨by rfl, ?_⟩) hHeld ?_
            rotate_left
            · intro w hSw
              have a2 := HXz.out w hSw
              have b2 := HYz.out w hSw
              go_simp
              try with_reducible rfl
            try simp only [Act.put, List.setIfInBounds_toArray, List.set_cons_zero, List.set_cons_succ]
            refine wpAnyH_take (i := 2) (oi := { dst := some 51, op := Op.move (Operand.tmp 5), type := 3, pos := "ref.go:77", after := #[], guard := none }) (v := ?_) rfl (by kernel_rfl) (by kernel_rfl) (by kernel_rfl) (fun _ _ _ h => h) (Or.inl ⟨by rfl, ?_⟩) hHeld ?_
            rotate_left
            · intro w hSw
              clear hSw
              go_simp
              try with_reducible rfl
            try simp only [Act.put, List.setIfInBounds_toArray, List.set_cons_zero, List.set_cons_succ]
            refine wpAnyH_take (i := 3) (oi := { dst := some 52, op := Op.index 9 (Operand.tmp 50) (Operand.tmp 51), type := 5, pos := "ref.go:77", after := #[{ on := 1, ground := Ground.data }, { on := 2, ground := Ground.data }], guard := none }) (v := ?_) rfl (by kernel_rfl) (by kernel_rfl) (by kernel_rfl) (fun _ _ _ h => h) (Or.inl ⟨by rfl, ?_⟩) hHeld ?_
            rotate_left
            · intro w hSw
              clear hSw
              go_simp
              try with_reducible rfl
            try simp only [Act.put, List.setIfInBounds_toArray, List.set_cons_zero, List.set_cons_succ]
            refine wpAnyH_take (i := 4) (oi := { dst := some 53, op := Op.convert 5 3 (Operand.tmp 52), type := 3, pos := "ref.go:77", after := #[{ on := 3, ground := Ground.data }], guard := none }) (v := ?_) rfl (by kernel_rfl) (by kernel_rfl) (by kernel_rfl) (fun _ _ _ h => h) (Or.inl ⟨by rfl, ?_⟩) hHeld ?_
            rotate_left
            · intro w hSw
              clear hSw
              go_simp
              try with_reducible rfl
            try simp only [Act.put, List.setIfInBounds_toArray, List.set_cons_zero, List.set_cons_succ]
            refine wpAnyH_take (i := 5) (oi := { dst := some 54, op := Op.fieldAddr 32 (Operand.tmp 3) 2, type := 0, pos := "ref.go:77", after := #[], guard := none }) (v := ?_) rfl (by kernel_rfl) (by kernel_rfl) (by kernel_rfl) (fun _ _ _ h => h) (Or.inl ⟨by rfl, ?_⟩) hHeld ?_
            rotate_left
            · intro w hSw
              clear hSw
              go_simp
              try with_reducible rfl
            try simp only [Act.put, List.setIfInBounds_toArray, List.set_cons_zero, List.set_cons_succ]
            refine wpAnyH_take (i := 6) (oi := { dst := some 55, op := Op.load 9 (Operand.tmp 54), type := 9, pos := "ref.go:77", after := #[{ on := 5, ground := Ground.data }], guard := none }) (v := ?_) rfl (by kernel_rfl) (by kernel_rfl) (by kernel_rfl) (fun _ _ _ h => h) (Or.inl ⟨by rfl, ?_⟩) hHeld ?_
            rotate_left
            · intro w hSw
              have a2 := HXz.out w hSw
              have b2 := HYz.out w hSw
              go_simp
              try with_reducible rfl
            try simp only [Act.put, List.setIfInBounds_toArray, List.set_cons_zero, List.set_cons_succ]
            refine wpAnyH_take (i := 7) (oi := { dst := some 56, op := Op.move (Operand.tmp 5), type := 3, pos := "ref.go:77", after := #[], guard := none }) (v := ?_) rfl (by kernel_rfl) (by kernel_rfl) (by kernel_rfl) (fun _ _ _ h => h) (Or.inl ⟨by rfl, ?_⟩) hHeld ?_
            rotate_left
            · intro w hSw
              clear hSw
              go_simp
              try with_reducible rfl
            try simp only [Act.put, List.setIfInBounds_toArray, List.set_cons_zero, List.set_cons_succ]
            refine wpAnyH_take (i := 8) (oi := { dst := some 57, op := Op.index 9 (Operand.tmp 55) (Operand.tmp 56), type := 5, pos := "ref.go:77", after := #[{ on := 6, ground := Ground.data }, { on := 7, ground := Ground.data }], guard := none }) (v := ?_) rfl (by kernel_rfl) (by kernel_rfl) (by kernel_rfl) (fun _ _ _ h => h) (Or.inl ⟨by rfl, ?_⟩) hHeld ?_
            rotate_left
            · intro w hSw
              clear hSw
              go_simp
              try with_reducible rfl
            try simp only [Act.put, List.setIfInBounds_toArray, List.set_cons_zero, List.set_cons_succ]
            refine wpAnyH_take (i := 9) (oi := { dst := some 58, op := Op.convert 5 3 (Operand.tmp 57), type := 3, pos := "ref.go:77", after := #[{ on := 8, ground := Ground.data }], guard := none }) (v := ?_) rfl (by kernel_rfl) (by kernel_rfl) (by kernel_rfl) (fun _ _ _ h => h) (Or.inl ⟨by rfl, ?_⟩) hHeld ?_
            rotate_left
            · intro w hSw
              clear hSw
              go_simp
              try with_reducible rfl
            try simp only [Act.put, List.setIfInBounds_toArray, List.set_cons_zero, List.set_cons_succ]
            refine wpAnyH_ready (rs := [10]) (by kernel_rfl) (by simp) ?_
            refine AllReadyH.cons (o := { dst := some 59, op := Op.call { callee := Callee.value (Operand.func 100), args := #[Operand.tmp 53, Operand.tmp 58], argTypes := #[3, 3] }, type := 3, pos := "ref.go:77", after := #[{ on := 4, ground := Ground.data }, { on := 9, ground := Ground.data }], guard := none }) rfl (fun K hK => ?_) AllReadyH.nil
            go_simp
            refine (HO.out _ _ _).mono ?_
            rintro e w9 ⟨rfl, hw9⟩
            subst w9
            refine hK.out _ _ (hHeld) (fun hHeld => ?_)
            clear hK K
            try simp only [Act.put, List.setIfInBounds_toArray, List.set_cons_zero, List.set_cons_succ]
            refine wpAnyH_take (i := 11) (oi := { dst := some 4, op := Op.assign (Operand.tmp 59), type := 3, pos := "ref.go:77", after := #[{ on := 10, ground := Ground.data }, { on := 10, ground := Ground.chain }, { on := 0, ground := Ground.phase }, { on := 1, ground := Ground.phase }, { on := 2, ground := Ground.phase }, { on := 3, ground := Ground.phase }, { on := 4, ground := Ground.phase }, { on := 5, ground := Ground.phase }, { on := 6, ground := Ground.phase }, { on := 7, ground := Ground.phase }, { on := 8, ground := Ground.phase }, { on := 9, ground := Ground.phase }, { on := 10, ground := Ground.phase }], guard := none }) (v := ?_) rfl (by kernel_rfl) (by kernel_rfl) (by kernel_rfl) (fun _ _ _ h => h) (Or.inl ⟨by rfl, ?_⟩) hHeld ?_
            rotate_left
            · intro w hSw
              clear hSw
              go_simp
              try with_reducible rfl
            try simp only [Act.put, List.setIfInBounds_toArray, List.set_cons_zero, List.set_cons_succ]
            refine wpAnyH_done (by kernel_rfl) ?_ _
            have HB2 : Hid (Below V.heap.size V _) := HBz.out.trans (hHeld.mono HBz.out.size)
            clear hHeld
            go_wp2_with fail
            go_ret
            exact ⟨by rw [HPP.out, HQQ.out]; rfl, HB.out.trans (HB2.out.mono HB.out.size)⟩
        · have hfin := HQ.out.fin hn
          have HB2 : Hid (Below w.heap.size w wq) := HB.out.trans (HBq.out.mono HB.out.size)
          have a3 : wq.cell? ⟨s, 3, none⟩ = some (.int .i64 x.len) := ((HX0.out.below HBq.out HX0.out.lt).c 3).trans rfl
          have b3 : wq.cell? ⟨s + 1, 3, none⟩ = some (.int .i64 y.len) := ((HY0.out.below HBq.out HY0.out.lt).c 3).trans rfl
          clear HQ HX HY HBq HX0 HY0 HB
          by_cases hsz : x.addr.size = y.addr.size
          · have hro : roF (Lib.compareInt (x.addr.size : Int) (y.addr.size : Int)) (Lib.compareInt x.len y.len) = Lib.compareInt x.len y.len := by unfold roF; rw [hsz, if_pos (ci_eq _)]
            obtain rfl : P = Lib.compareInt x.len y.len := by rw [HPa.out, hfin, hro]
            have hsi : ((y.addr.size : Nat) : Int) = x.addr.size := by omega
            have hn1 : ¬ (n < x.addr.size) := by omega
            have hn2 : ¬ (n < y.addr.size) := by omega
            clear hro hn hfin HPa
            go_wp2_with fail
            refine (HO.out _ _ _).mono ?_
            rintro e w9 ⟨rfl, hw9⟩
            subst w9
            go_wp2_with fail
            go_ret
            exact ⟨rfl, HB2.out⟩
          · have hne : ((x.addr.size : Nat) : Int) ≠ (y.addr.size : Nat) := by omega
            have hro : roF (Lib.compareInt (x.addr.size : Int) (y.addr.size : Int)) (Lib.compareInt x.len y.len) = Lib.compareInt (x.addr.size : Int) (y.addr.size : Int) := by unfold roF; rw [if_neg (ci_ne hne)]
            obtain rfl : P = Lib.compareInt (x.addr.size : Int) (y.addr.size : Int) := by rw [HPa.out, hfin, hro]
            have hne1 : (((x.addr.size : Nat) : Int) != (y.addr.size : Nat)) = true := bne_iff_ne.2 hne
            have hne2 : (((x.addr.size : Nat) : Int) == (y.addr.size : Nat)) = false := beq_false_of_ne hne
            clear hro hfin HPa
            by_cases hn1 : n < x.addr.size
            · have hn2 : ¬ (n < y.addr.size) := fun h => hn ⟨hn1, h⟩
              clear hn
              go_wp2_with fail
              refine (HO.out _ _ _).mono ?_
              rintro e w9 ⟨rfl, hw9⟩
              subst w9
              go_wp2_with fail
              go_ret
              exact ⟨rfl, HB2.out⟩
            · clear hn
              go_wp2_with fail
              refine (HO.out _ _ _).mono ?_
              rintro e w9 ⟨rfl, hw9⟩
              subst w9
              go_wp2_with fail
              go_ret
              exact ⟨rfl, HB2.out⟩
    · have hP := HPc.out.trans (pc_rd h1 h2)
      rw [← h1] at b0
      clear h1
      have hne1 : (x.rd != y.rd) = true := bne_iff_ne.2 h2
      have hne2 : (x.rd == y.rd) = false := beq_false_of_ne h2
      by_cases hlt : x.rd < y.rd
      · rw [ci_lt hlt] at hP
        subst hP
        go_wp2_with fail
        go_ret
        exact ⟨rfl, HB.out⟩
      · rw [ci_gt (by omega)] at hP
        subst hP
        go_wp2_with fail
        go_ret
        exact ⟨rfl, HB.out⟩
  · obtain rfl : P = Lib.compareInt x.fam y.fam := HPc.out.trans (pc_fam h1)
    have hne1 : (x.fam != y.fam) = true := bne_iff_ne.2 h1
    have hne2 : (x.fam == y.fam) = false := beq_false_of_ne h1
    go_wp2_with fail
    refine (HO.out _ _ _).mono ?_
    rintro e w9 ⟨rfl, hw9⟩
    subst w9
    go_wp2_with fail
    go_ret
    exact ⟨rfl, HB.out⟩
/-- heraldref07.Check -/
theorem r7check_any (k : Pk) (label : Nat) (hk : k.Ok) (hl : label < 4294967296) (w : World) : Calls Tryz.prog 38 #[.agg (nlA k label)] w fun e w' => e = .returned (.int .i64 (nlC (nlk k label))) ∧ Below w.heap.size w w' := by
  have HM : Hid (∀ W, Calls Tryz.prog 61 #[.agg #[.int .i64 k.fam, .int .u64 k.rd, .string k.addr, .int .i64 k.len, .int .u32 (k.id : Nat), .int .u32 (label : Nat)]] W fun e w' => e = .returned (.bool (decide (nlMay (nlk k label)))) ∧ Below W.heap.size W w') := fun W => r7may_any (nlk k label) (nlk_ok hk hl) W
  unfold nlA
  obtain ⟨P, hP⟩ : ∃ P, P = nlC (nlk k label) := ⟨_, rfl⟩
  rw [← hP]
  unfold nlC at hP
  go_enter Tryz.func38, Tryz.ntmps38
  go_upto_region 1 with fail
  refine rb_name fun V hV => ?_
  obtain ⟨s, hs⟩ : ∃ s, s = w.heap.size := ⟨_, rfl⟩
  have HX0 : Hid (CellsAt V s #[.int .i64 k.fam, .int .u64 k.rd, .string k.addr, .int .i64 k.len, .int .u32 (k.id : Nat), .int .u32 (label : Nat)] 35) := by rw [hV, hs]; exact CellsAt.new _ _ _
  have HB : Hid (Below w.heap.size w V) := by rw [hV]; exact (Below.refl _ _).alloc (Nat.le_refl _) _
  rw [← hs]
  clear hV hs
  obtain ⟨a0, a1, a2, a3, a4, a5⟩ := c6 HX0.out
  by_cases hm : nlMay (nlk k label)
  · rw [if_pos hm] at hP
    subst hP
    rw [decide_eq_true hm] at HM
    clear hm
    go_wp2_with fail
    refine (HM.out _).mono ?_
    rintro e w9 ⟨rfl, hw9⟩
    have HB2 := Lib.hid (HB.out.trans (hw9.mono HB.out.size))
    clear hw9
    go_wp2_with fail
    go_ret
    exact ⟨rfl, HB2.out⟩
  · rw [if_neg hm] at hP
    subst hP
    rw [decide_eq_false hm] at HM
    clear hm
    go_wp2_with fail
    refine (HM.out _).mono ?_
    rintro e w9 ⟨rfl, hw9⟩
    have HB2 := Lib.hid (HB.out.trans (hw9.mono HB.out.size))
    clear hw9
    go_wp2_with fail
    go_ret
    exact ⟨rfl, HB2.out⟩
/-- heraldref22.order -/
theorem r22ord_any (x y : Pk) (hx : x.Ok) (hy : y.Ok) (w : World) : Calls Tryz.prog 65 #[.agg x.pf, .int .u32 (x.id : Nat), .agg y.pf, .int .u32 (y.id : Nat)] w fun e w' => e = .returned (.int .i64 (cfP x y)) ∧ Below w.heap.size w w' := by
  have HC : Hid (∀ W, Calls Tryz.prog 78 #[.agg #[.int .i64 x.fam, .int .u64 x.rd, .string x.addr, .int .i64 x.len], .agg #[.int .i64 y.fam, .int .u64 y.rd, .string y.addr, .int .i64 y.len]] W fun e w' => e = .returned (.int .i64 (pcF x y)) ∧ Below W.heap.size W w') := fun W => r1cmp_any x y hx hy W
  have hi1 := hx.id
  have hi2 := hy.id
  clear hx hy
  obtain ⟨P, hP⟩ : ∃ P, P = cfP x y := ⟨_, rfl⟩
  rw [← hP]
  unfold cfP roF at hP
  generalize pcF x y = c at HC hP
  have HPc := Lib.hid hP
  clear hP
  unfold Pk.pf
  go_enter Tryz.func65, Tryz.ntmps65
  go_upto_region 1 with fail
  refine rb_name fun V hV => ?_
  obtain ⟨s, hs⟩ : ∃ s, s = w.heap.size := ⟨_, rfl⟩
  have HX0 : Hid (CellsAt V s #[.int .i64 x.fam, .int .u64 x.rd, .string x.addr, .int .i64 x.len] 32) := by rw [hV, hs]; exact (CellsAt.new _ _ _).alloc _
  have HY0 : Hid (CellsAt V (s + 1) #[.int .i64 y.fam, .int .u64 y.rd, .string y.addr, .int .i64 y.len] 32) := by
    have h := CellsAt.new (w.alloc (.cells #[.int .i64 x.fam, .int .u64 x.rd, .string x.addr, .int .i64 x.len] 32)) #[.int .i64 y.fam, .int .u64 y.rd, .string y.addr, .int .i64 y.len] 32
    rw [World.size_alloc] at h
    rw [hV, hs]
    exact h
  have HB : Hid (Below w.heap.size w V) := by rw [hV]; exact ((Below.refl _ _).alloc (Nat.le_refl _) _).alloc (by simp) _
  rw [← hs]
  clear hV hs
  obtain ⟨a0, a1, a2, a3⟩ := HX0.out.c4
  obtain ⟨b0, b1, b2, b3⟩ := HY0.out.c4
  go_wp2_with fail
  refine (HC.out _).mono ?_
  rintro e w9 ⟨rfl, hw9⟩
  have HB2 := Lib.hid (HB.out.trans (hw9.mono HB.out.size))
  clear hw9 HB HX0 HY0 a0 a1 a2 a3 b0 b1 b2 b3 HC
  by_cases hc : c = 0
  · subst hc
    have hP := HPc.out
    rw [if_pos rfl] at hP
    rcases Nat.lt_trichotomy x.id y.id with h | h | h
    · rw [ci_lt (by omega)] at hP
      subst hP
      go_wp2_with fail
      go_ret
      exact ⟨rfl, HB2.out⟩
    · rw [h, ci_eq] at hP
      subst hP
      have h3 : (x.id : Int) = y.id := by omega
      go_wp2_with fail
      go_ret
      exact ⟨rfl, HB2.out⟩
    · rw [ci_gt (by omega)] at hP
      subst hP
      have h2 : ¬ x.id < y.id := by omega
      go_wp2_with fail
      go_ret
      exact ⟨rfl, HB2.out⟩
  · have hP := HPc.out
    rw [if_neg hc] at hP
    subst hP
    have hne1 : (P != 0) = true := bne_iff_ne.2 hc
    have hne2 : (P == 0) = false := beq_false_of_ne hc
    go_wp2_with fail
    go_ret
    exact ⟨rfl, HB2.out⟩
end Go.Proofs.YtldpcliahfiloaaGreat
