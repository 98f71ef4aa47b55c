/-
  WaysLess walked. Conditions: sizes.
-/
import Derived.Test.YthnjepehiddogaaTrY
set_option linter.unusedVariables false
set_option linter.unusedSimpArgs false
namespace Go.Proofs.Ythnjepehiddogaa
open Go.RowKit Go.MapKept

def ThIs (L : List Px) (p : Px) (k : Nat) (th : Bool) : Prop := th = true ↔ ∃ j, j < k ∧ L[j]? = some p
theorem calls_name {P : Program} {f : FuncId} {args : Array Value} {w : World} {Q : Ending → World → Prop} (h : ∀ V, V = w → Calls P f args V Q) : Calls P f args w Q := h w rfl
theorem px_no {x y : Px} (h : x ≠ y) : x.fam = y.fam → x.rd = y.rd → x.addr.toList = y.addr.toList → ¬ x.len = y.len := fun h1 h2 h3 h4 => by
  have h5 : x.addr = y.addr := by
    rw [ByteArray.toList_eq, ByteArray.toList_eq] at h3
    exact ByteArray.ext (Array.ext' h3)
  exact h (by cases x; cases y; simp only at h1 h2 h4 h5; rw [h1, h2, h4, h5])
theorem OneAt.del {w0 w w' : World} {a : Nat} {M : Tp → Int → Prop} {p : Px} {e : Ending} {X : Nat → Prop} (h : DelPost w a M X p e w') (h2 : ∀ x, X x → w0.heap.size ≤ x) (h3 : Below w0.heap.size w0 w) (hok : PrefOk p.fam p.rd p.addr p.len) :
    ∃ g, e = .returned (.bool g) ∧ OneAt w0 w' a (fun q x => q ≠ p.tp ∧ M q x) ∧ (g = true ↔ ∃ x, M p.tp x) := by
  rcases h with ⟨h1, _⟩ | ⟨_, g, X', rfl, k1, k2, k3, k4⟩
  · exact absurd hok h1
  · exact ⟨g, rfl, OneAt.turn h2 h3 k1 k2 k3, k4⟩
set_option maxRecDepth 100000 in
set_option maxHeartbeats 16000000 in
theorem less_walk (A : Option Addr) (len cap : Nat) (p : Px) (next : ByteArray) (W : World) (hpi : p.In) (hs : next.size ≤ 9223372036854775807) (hE : ElemsIn W A len cap 4 (fun cs => ∃ x : Px, x.In ∧ cs = x.cs)) :
    Calls Try.prog 4 #[.slice A len cap, p.v, .string next] W fun e w' => e = .returned (.bool true) ∧ Below W.heap.size W w' := by
  obtain ⟨N, hN1, hN2, hN3⟩ : ∃ N : Nat, N ≤ len ∧ N ≤ 30 ∧ (N = len ∨ N = 30) := ⟨min len 30, by omega, by omega, by omega⟩
  have hm1 := hE.1
  have hm2 := hE.2.1
  unfold maxLen at hm2
  obtain ⟨L, hL, hp⟩ := PxAt.of_elems hE hN1
  have HL := Lib.hid hp
  have HLN := Lib.hid hL
  have HPI := Lib.hid hpi.addr
  have HN3 := Lib.hid hN3
  clear hp hE hL hpi hN3
  unfold Px.v
  go_enter Try.func4, Try.ntmps4
  go_wp2_with fail
  refine (works_any _).mono ?_
  rintro e w1 ⟨rfl, hb1⟩
  have HP1 : Hid (CellsAt w1 W.heap.size #[.int .i64 p.fam, .int .u64 p.rd, .string p.addr, .int .i64 p.len] 30) := (CellsAt.new W _ _).below hb1 (by simp)
  have HB1 : Hid (Below W.heap.size W w1) := by
    show Below _ _ _
    exact ((Below.refl _ _).alloc (Nat.le_refl _) _).trans (hb1.mono (by simp))
  clear hb1
  have hpl := HP1.out.lt
  go_wp2_with fail
  refine (wnew_any w1).mono ?_
  rintro e w2 ⟨rfl, hw2⟩
  have HO2 : Hid (OneAt w1 w2 (w1.heap.size + 1) (MI L 0)) := by
    rw [hw2]
    exact one_new w1
  clear hw2
  have HPV : Hid (∀ V, Below w1.heap.size w1 V → CellsAt V W.heap.size #[.int .i64 p.fam, .int .u64 p.rd, .string p.addr, .int .i64 p.len] 30) := fun V h => HP1.out.below h HP1.out.lt
  have HTH0 : Hid (ThIs L p 0 false) := Iff.intro (fun h => (by cases h)) (fun ⟨j, h, _⟩ => absurd h (by omega))
  go_wp2_with fail
  go_loopw [9, 8] (fun i tv wr => ∃ (k : Nat) (th : Bool), k ≤ N ∧ i = .int .i64 k ∧ tv = .bool th ∧ Hid (OneAt w1 wr (w1.heap.size + 1) (MI L k)) ∧ Hid (ThIs L p k th)) (fun i _ _ => N + 1 - (intOf i).toNat)
  case atStart => exact ⟨0, false, Nat.zero_le _, rfl, rfl, HO2, HTH0⟩
  case round =>
    obtain ⟨k, th, hk, rfl, rfl, HT, HTH⟩ := hrel
    by_cases hlt : k < N
    · obtain ⟨x, hx⟩ : ∃ x, L[k]? = some x := ⟨L[k]'(by rw [HLN.out]; exact hlt), List.getElem?_eq_getElem _⟩
      obtain ⟨b0, off, rfl, _, _⟩ := HL.out.at_ (by rw [HLN.out]; omega)
      have hk1 : k < len := by omega
      have hk2 : k < 30 := by omega
      have HX := Lib.hid hx
      have HXI := Lib.hid ((HL.out.ok x (List.mem_of_getElem? hx)).addr)
      obtain ⟨X, ha, h2, h3⟩ := HT.out
      have HA := Lib.hid ha
      have H2 := Lib.hid h2
      have H3 := Lib.hid h3
      have HBr : Hid (Below W.heap.size W wr) := HB1.out.trans (h3.mono HB1.out.size)
      clear ha h2 h3 hx
      obtain ⟨l0, l1, l2, l3⟩ := HL.out.read HX.out HBr.out
      go_wp2_with fail
      refine (add_any x.fam x.rd x.addr x.len k HXI.out _ _ _ _ HA.out).mono ?_
      rintro e w9 hp
      obtain ⟨z, X9, rfl, k1, k2, k3⟩ := hp.at_ HA.out HX.out
      have HT9 : Hid (OneAt w1 w9 (w1.heap.size + 1) (MI L (k + 1))) := OneAt.turn H2.out H3.out k1 k2 k3
      have HB9 : Hid (Below W.heap.size W w9) := by
        obtain ⟨_, _, _, h⟩ := HT9.out
        exact HB1.out.trans (h.mono HB1.out.size)
      have HP9 : Hid (CellsAt w9 W.heap.size #[.int .i64 p.fam, .int .u64 p.rd, .string p.addr, .int .i64 p.len] 30) := by
        obtain ⟨_, _, _, h⟩ := HT9.out
        exact HPV.out w9 h
      clear hp k1 k2 k3 HA H2 H3 HBr l0 l1 l2 l3
      cases th with
      | true =>
        have HTH2 : Hid (ThIs L p (k + 1) true) := Iff.intro (fun _ => by
          obtain ⟨j, h1, h2⟩ := HTH.out.1 rfl
          exact ⟨j, by omega, h2⟩) (fun _ => rfl)
        go_wp2_with fail
        refine wp_region_held_drew (S := fun w' => ∃ nd, w' = w9.drewN nd) (by kernel_rfl) (⟨1, rfl⟩) (fun hHeld => ?_)
        refine wpAnyH_take (i := 0) (oi := { dst := some 38, op := Op.move (Operand.tmp 8), type := 4, pos := "outright.go:70", after := #[], guard := none }) (v := ?_) rfl (by kernel_rfl) (by kernel_rfl) (by kernel_rfl) (fun _ _ _ h => h) (Or.inl ⟨by rfl, ?_⟩) hHeld ?_
        rotate_left
        · intro w hSw
          clear hSw
          go_simp
          try with_reducible rfl
        try simp only [Act.put, List.setIfInBounds_toArray, List.set_cons_zero, List.set_cons_succ]
        refine wpAnyH_take (i := 1) (oi := { dst := some 39, op := Op.move (Operand.tmp 38), type := 4, pos := "outright.go:70", after := #[{ on := 0, ground := Ground.data }], guard := none }) (v := ?_) rfl (by kernel_rfl) (by kernel_rfl) (by kernel_rfl) (fun _ _ _ h => h) (Or.inl ⟨by rfl, ?_⟩) hHeld ?_
        rotate_left
        · intro w hSw
          clear hSw
          go_simp
          try with_reducible rfl
        try simp only [Act.put, List.setIfInBounds_toArray, List.set_cons_zero, List.set_cons_succ]
        refine wpAnyH_take (i := 2) (oi := { dst := some 40, op := Op.move (Operand.tmp 0), type := 22, pos := "outright.go:70", after := #[{ on := 1, ground := Ground.guard }], guard := some (1, false) }) (v := undef) rfl (by kernel_rfl) (by kernel_rfl) (by kernel_rfl) (fun _ _ _ h => h) (Or.inr ⟨by rfl, rfl⟩) hHeld ?_
        try simp only [Act.put, List.setIfInBounds_toArray, List.set_cons_zero, List.set_cons_succ]
        refine wpAnyH_take (i := 3) (oi := { dst := some 41, op := Op.move (Operand.tmp 9), type := 3, pos := "outright.go:70", after := #[{ on := 1, ground := Ground.guard }], guard := some (1, false) }) (v := undef) rfl (by kernel_rfl) (by kernel_rfl) (by kernel_rfl) (fun _ _ _ h => h) (Or.inr ⟨by rfl, rfl⟩) hHeld ?_
        try simp only [Act.put, List.setIfInBounds_toArray, List.set_cons_zero, List.set_cons_succ]
        refine wpAnyH_take (i := 4) (oi := { dst := some 42, op := Op.indexAddr 22 (Operand.tmp 40) (Operand.tmp 41), type := 0, pos := "outright.go:70", after := #[{ on := 2, ground := Ground.data }, { on := 3, ground := Ground.data }, { on := 1, ground := Ground.guard }], guard := some (1, false) }) (v := undef) rfl (by kernel_rfl) (by kernel_rfl) (by kernel_rfl) (fun _ _ _ h => h) (Or.inr ⟨by rfl, rfl⟩) hHeld ?_
        try simp only [Act.put, List.setIfInBounds_toArray, List.set_cons_zero, List.set_cons_succ]
        refine wpAnyH_take (i := 5) (oi := { dst := some 43, op := Op.load 30 (Operand.tmp 42), type := 30, pos := "outright.go:70", after := #[{ on := 4, ground := Ground.data }, { on := 1, ground := Ground.guard }], guard := some (1, false) }) (v := undef) rfl (by kernel_rfl) (by kernel_rfl) (by kernel_rfl) (fun _ _ _ h => h) (Or.inr ⟨by rfl, rfl⟩) hHeld ?_
        try simp only [Act.put, List.setIfInBounds_toArray, List.set_cons_zero, List.set_cons_succ]
        refine wpAnyH_take (i := 6) (oi := { dst := some 44, op := Op.load 30 (Operand.tmp 4), type := 30, pos := "outright.go:70", after := #[{ on := 1, ground := Ground.guard }], guard := some (1, false) }) (v := undef) rfl (by kernel_rfl) (by kernel_rfl) (by kernel_rfl) (fun _ _ _ h => h) (Or.inr ⟨by rfl, rfl⟩) hHeld ?_
        try simp only [Act.put, List.setIfInBounds_toArray, List.set_cons_zero, List.set_cons_succ]
        refine wpAnyH_take (i := 7) (oi := { dst := some 45, op := Op.binOp BinOp.eql 30 (Operand.tmp 43) (Operand.tmp 44) 30, type := 4, pos := "outright.go:70", after := #[{ on := 5, ground := Ground.data }, { on := 6, ground := Ground.data }, { on := 1, ground := Ground.guard }], guard := some (1, false) }) (v := undef) rfl (by kernel_rfl) (by kernel_rfl) (by kernel_rfl) (fun _ _ _ h => h) (Or.inr ⟨by rfl, rfl⟩) hHeld ?_
        try simp only [Act.put, List.setIfInBounds_toArray, List.set_cons_zero, List.set_cons_succ]
        refine wpAnyH_take (i := 8) (oi := { dst := some 46, op := Op.pick (Operand.tmp 39) (Operand.const (Value.bool true)) (Operand.tmp 45), type := 4, pos := "outright.go:70", after := #[{ on := 1, ground := Ground.data }, { on := 7, ground := Ground.data }], guard := none }) (v := ?_) rfl (by kernel_rfl) (by kernel_rfl) (by kernel_rfl) (fun _ _ _ h => h) (Or.inl ⟨by rfl, ?_⟩) hHeld ?_
        rotate_left
        · intro w hSw
          clear hSw
          go_simp
          try with_reducible rfl
        try simp only [Act.put, List.setIfInBounds_toArray, List.set_cons_zero, List.set_cons_succ]
        refine wpAnyH_take (i := 9) (oi := { dst := some 8, op := Op.assign (Operand.tmp 46), type := 4, pos := "outright.go:70", after := #[{ on := 8, ground := Ground.data }, { on := 1, ground := Ground.chain }, { on := 0, ground := Ground.phase }, { on := 1, ground := Ground.phase }, { on := 2, ground := Ground.phase }, { on := 3, ground := Ground.phase }, { on := 4, ground := Ground.phase }, { on := 5, ground := Ground.phase }, { on := 6, ground := Ground.phase }, { on := 7, ground := Ground.phase }, { on := 8, ground := Ground.phase }], guard := none }) (v := ?_) rfl (by kernel_rfl) (by kernel_rfl) (by kernel_rfl) (fun _ _ _ h => h) (Or.inl ⟨by rfl, ?_⟩) hHeld ?_
        rotate_left
        · intro w hSw
          clear hSw
          go_simp
          try with_reducible rfl
        try simp only [Act.put, List.setIfInBounds_toArray, List.set_cons_zero, List.set_cons_succ]
        refine wpAnyH_done (by kernel_rfl) ?_ _
        clear hHeld
        go_wp2_with fail
        exact ⟨⟨k + 1, true, by omega, by go_num, rfl, HT9.out.below (below_drewN (Below.refl _ _) 1), HTH2⟩, by simp [intOf]; omega⟩
      | false =>
        by_cases hxp : x = p
        · have HTH2 : Hid (ThIs L p (k + 1) true) := Iff.intro (fun _ => ⟨k, by omega, hxp ▸ HX.out⟩) (fun _ => rfl)
          have c0 : (x.fam == p.fam) = true := by rw [hxp, beq_iff_eq]
          have c1 : (x.rd == p.rd) = true := by rw [hxp, beq_iff_eq]
          have c2 : (x.addr.toList == p.addr.toList) = true := by rw [hxp, beq_iff_eq]
          have c3 : (x.len == p.len) = true := by rw [hxp, beq_iff_eq]
          have HXP := Lib.hid hxp
          clear hxp
          go_wp2_with fail
          refine wp_region_held_drew (S := fun w' => ∃ nd, w' = w9.drewN nd) (by kernel_rfl) (⟨1, rfl⟩) (fun hHeld => ?_)
          refine wpAnyH_take (i := 0) (oi := { dst := some 38, op := Op.move (Operand.tmp 8), type := 4, pos := "outright.go:70", after := #[], guard := none }) (v := ?_) rfl (by kernel_rfl) (by kernel_rfl) (by kernel_rfl) (fun _ _ _ h => h) (Or.inl ⟨by rfl, ?_⟩) hHeld ?_
          rotate_left
          · intro w hSw
            clear hSw
            go_simp
            try with_reducible rfl
          try simp only [Act.put, List.setIfInBounds_toArray, List.set_cons_zero, List.set_cons_succ]
          refine wpAnyH_take (i := 1) (oi := { dst := some 39, op := Op.move (Operand.tmp 38), type := 4, pos := "outright.go:70", after := #[{ on := 0, ground := Ground.data }], guard := none }) (v := ?_) rfl (by kernel_rfl) (by kernel_rfl) (by kernel_rfl) (fun _ _ _ h => h) (Or.inl ⟨by rfl, ?_⟩) hHeld ?_
          rotate_left
          · intro w hSw
            clear hSw
            go_simp
            try with_reducible rfl
          try simp only [Act.put, List.setIfInBounds_toArray, List.set_cons_zero, List.set_cons_succ]
          refine wpAnyH_take (i := 2) (oi := { dst := some 40, op := Op.move (Operand.tmp 0), type := 22, pos := "outright.go:70", after := #[{ on := 1, ground := Ground.guard }], guard := some (1, false) }) (v := ?_) rfl (by kernel_rfl) (by kernel_rfl) (by kernel_rfl) (fun _ _ _ h => h) (Or.inl ⟨by rfl, ?_⟩) hHeld ?_
          rotate_left
          · intro w hSw
            clear hSw
            go_simp
            try with_reducible rfl
          try simp only [Act.put, List.setIfInBounds_toArray, List.set_cons_zero, List.set_cons_succ]
          refine wpAnyH_take (i := 3) (oi := { dst := some 41, op := Op.move (Operand.tmp 9), type := 3, pos := "outright.go:70", after := #[{ on := 1, ground := Ground.guard }], guard := some (1, false) }) (v := ?_) rfl (by kernel_rfl) (by kernel_rfl) (by kernel_rfl) (fun _ _ _ h => h) (Or.inl ⟨by rfl, ?_⟩) hHeld ?_
          rotate_left
          · intro w hSw
            clear hSw
            go_simp
            try with_reducible rfl
          try simp only [Act.put, List.setIfInBounds_toArray, List.set_cons_zero, List.set_cons_succ]
          refine wpAnyH_take (i := 4) (oi := { dst := some 42, op := Op.indexAddr 22 (Operand.tmp 40) (Operand.tmp 41), type := 0, pos := "outright.go:70", after := #[{ on := 2, ground := Ground.data }, { on := 3, ground := Ground.data }, { on := 1, ground := Ground.guard }], guard := some (1, false) }) (v := ?_) rfl (by kernel_rfl) (by kernel_rfl) (by kernel_rfl) (fun _ _ _ h => h) (Or.inl ⟨by rfl, ?_⟩) hHeld ?_
          rotate_left
          · intro w hSw
            clear hSw
            go_simp
            try with_reducible rfl
          try simp only [Act.put, List.setIfInBounds_toArray, List.set_cons_zero, List.set_cons_succ]
          refine wpAnyH_take (i := 5) (oi := { dst := some 43, op := Op.load 30 (Operand.tmp 42), type := 30, pos := "outright.go:70", after := #[{ on := 4, ground := Ground.data }, { on := 1, ground := Ground.guard }], guard := some (1, false) }) (v := ?_) rfl (by kernel_rfl) (by kernel_rfl) (by kernel_rfl) (fun _ _ _ h => h) (Or.inl ⟨by rfl, ?_⟩) hHeld ?_
          rotate_left
          · intro w hSw
            obtain ⟨nd, rfl⟩ := hSw
            obtain ⟨l0, l1, l2, l3⟩ := HL.out.read HX.out (below_drewN HB9.out nd)
            obtain ⟨p0, p1, p2, p3, _⟩ := c4_at (HP9.out.drew nd)
            go_simp
            try with_reducible rfl
          try simp only [Act.put, List.setIfInBounds_toArray, List.set_cons_zero, List.set_cons_succ]
          refine wpAnyH_take (i := 6) (oi := { dst := some 44, op := Op.load 30 (Operand.tmp 4), type := 30, pos := "outright.go:70", after := #[{ on := 1, ground := Ground.guard }], guard := some (1, false) }) (v := ?_) rfl (by kernel_rfl) (by kernel_rfl) (by kernel_rfl) (fun _ _ _ h => h) (Or.inl ⟨by rfl, ?_⟩) hHeld ?_
          rotate_left
          · intro w hSw
            obtain ⟨nd, rfl⟩ := hSw
            obtain ⟨l0, l1, l2, l3⟩ := HL.out.read HX.out (below_drewN HB9.out nd)
            obtain ⟨p0, p1, p2, p3, _⟩ := c4_at (HP9.out.drew nd)
            go_simp
            try with_reducible rfl
          try simp only [Act.put, List.setIfInBounds_toArray, List.set_cons_zero, List.set_cons_succ]
          refine wpAnyH_take (i := 7) (oi := { dst := some 45, op := Op.binOp BinOp.eql 30 (Operand.tmp 43) (Operand.tmp 44) 30, type := 4, pos := "outright.go:70", after := #[{ on := 5, ground := Ground.data }, { on := 6, ground := Ground.data }, { on := 1, ground := Ground.guard }], guard := some (1, false) }) (v := .bool true) rfl (by kernel_rfl) (by kernel_rfl) (by kernel_rfl) (fun _ _ _ h => h) (Or.inl ⟨by rfl, ?_⟩) hHeld ?_
          · intro w hSw
            clear hSw
            go_simp
            all_goals first | exact ⟨by rw [HXP.out], by rw [HXP.out], by rw [HXP.out], by rw [HXP.out]⟩ | (rw [HXP.out]; simp) | (intros; simp_all)
          try simp only [Act.put, List.setIfInBounds_toArray, List.set_cons_zero, List.set_cons_succ]
          refine wpAnyH_take (i := 8) (oi := { dst := some 46, op := Op.pick (Operand.tmp 39) (Operand.const (Value.bool true)) (Operand.tmp 45), type := 4, pos := "outright.go:70", after := #[{ on := 1, ground := Ground.data }, { on := 7, ground := Ground.data }], guard := none }) (v := ?_) rfl (by kernel_rfl) (by kernel_rfl) (by kernel_rfl) (fun _ _ _ h => h) (Or.inl ⟨by rfl, ?_⟩) hHeld ?_
          rotate_left
          · intro w hSw
            clear hSw
            go_simp
            try with_reducible rfl
          try simp only [Act.put, List.setIfInBounds_toArray, List.set_cons_zero, List.set_cons_succ]
          refine wpAnyH_take (i := 9) (oi := { dst := some 8, op := Op.assign (Operand.tmp 46), type := 4, pos := "outright.go:70", after := #[{ on := 8, ground := Ground.data }, { on := 1, ground := Ground.chain }, { on := 0, ground := Ground.phase }, { on := 1, ground := Ground.phase }, { on := 2, ground := Ground.phase }, { on := 3, ground := Ground.phase }, { on := 4, ground := Ground.phase }, { on := 5, ground := Ground.phase }, { on := 6, ground := Ground.phase }, { on := 7, ground := Ground.phase }, { on := 8, ground := Ground.phase }], guard := none }) (v := ?_) rfl (by kernel_rfl) (by kernel_rfl) (by kernel_rfl) (fun _ _ _ h => h) (Or.inl ⟨by rfl, ?_⟩) hHeld ?_
          rotate_left
          · intro w hSw
            clear hSw
            go_simp
            try with_reducible rfl
          try simp only [Act.put, List.setIfInBounds_toArray, List.set_cons_zero, List.set_cons_succ]
          refine wpAnyH_done (by kernel_rfl) ?_ _
          clear hHeld
          go_wp2_with fail
          exact ⟨⟨k + 1, true, by omega, by go_num, rfl, HT9.out.below (below_drewN (Below.refl _ _) 1), HTH2⟩, by simp [intOf]; omega⟩
        · have HTH2 : Hid (ThIs L p (k + 1) false) := Iff.intro (fun h => (by cases h)) (fun ⟨j, h1, h2⟩ => by
            by_cases hjk : j = k
            · rw [hjk, HX.out] at h2
              injection h2 with h2
              exact absurd h2 hxp
            · exact HTH.out.2 ⟨j, by omega, h2⟩)
          have HNE := Lib.hid hxp
          clear hxp
          go_wp2_with fail
          refine wp_region_held_drew (S := fun w' => ∃ nd, w' = w9.drewN nd) (by kernel_rfl) (⟨1, rfl⟩) (fun hHeld => ?_)
          refine wpAnyH_take (i := 0) (oi := { dst := some 38, op := Op.move (Operand.tmp 8), type := 4, pos := "outright.go:70", after := #[], guard := none }) (v := ?_) rfl (by kernel_rfl) (by kernel_rfl) (by kernel_rfl) (fun _ _ _ h => h) (Or.inl ⟨by rfl, ?_⟩) hHeld ?_
          rotate_left
          · intro w hSw
            clear hSw
            go_simp
            try with_reducible rfl
          try simp only [Act.put, List.setIfInBounds_toArray, List.set_cons_zero, List.set_cons_succ]
          refine wpAnyH_take (i := 1) (oi := { dst := some 39, op := Op.move (Operand.tmp 38), type := 4, pos := "outright.go:70", after := #[{ on := 0, ground := Ground.data }], guard := none }) (v := ?_) rfl (by kernel_rfl) (by kernel_rfl) (by kernel_rfl) (fun _ _ _ h => h) (Or.inl ⟨by rfl, ?_⟩) hHeld ?_
          rotate_left
          · intro w hSw
            clear hSw
            go_simp
            try with_reducible rfl
          try simp only [Act.put, List.setIfInBounds_toArray, List.set_cons_zero, List.set_cons_succ]
          refine wpAnyH_take (i := 2) (oi := { dst := some 40, op := Op.move (Operand.tmp 0), type := 22, pos := "outright.go:70", after := #[{ on := 1, ground := Ground.guard }], guard := some (1, false) }) (v := ?_) rfl (by kernel_rfl) (by kernel_rfl) (by kernel_rfl) (fun _ _ _ h => h) (Or.inl ⟨by rfl, ?_⟩) hHeld ?_
          rotate_left
          · intro w hSw
            clear hSw
            go_simp
            try with_reducible rfl
          try simp only [Act.put, List.setIfInBounds_toArray, List.set_cons_zero, List.set_cons_succ]
          refine wpAnyH_take (i := 3) (oi := { dst := some 41, op := Op.move (Operand.tmp 9), type := 3, pos := "outright.go:70", after := #[{ on := 1, ground := Ground.guard }], guard := some (1, false) }) (v := ?_) rfl (by kernel_rfl) (by kernel_rfl) (by kernel_rfl) (fun _ _ _ h => h) (Or.inl ⟨by rfl, ?_⟩) hHeld ?_
          rotate_left
          · intro w hSw
            clear hSw
            go_simp
            try with_reducible rfl
          try simp only [Act.put, List.setIfInBounds_toArray, List.set_cons_zero, List.set_cons_succ]
          refine wpAnyH_take (i := 4) (oi := { dst := some 42, op := Op.indexAddr 22 (Operand.tmp 40) (Operand.tmp 41), type := 0, pos := "outright.go:70", after := #[{ on := 2, ground := Ground.data }, { on := 3, ground := Ground.data }, { on := 1, ground := Ground.guard }], guard := some (1, false) }) (v := ?_) rfl (by kernel_rfl) (by kernel_rfl) (by kernel_rfl) (fun _ _ _ h => h) (Or.inl ⟨by rfl, ?_⟩) hHeld ?_
          rotate_left
          · intro w hSw
            clear hSw
            go_simp
            try with_reducible rfl
          try simp only [Act.put, List.setIfInBounds_toArray, List.set_cons_zero, List.set_cons_succ]
          refine wpAnyH_take (i := 5) (oi := { dst := some 43, op := Op.load 30 (Operand.tmp 42), type := 30, pos := "outright.go:70", after := #[{ on := 4, ground := Ground.data }, { on := 1, ground := Ground.guard }], guard := some (1, false) }) (v := ?_) rfl (by kernel_rfl) (by kernel_rfl) (by kernel_rfl) (fun _ _ _ h => h) (Or.inl ⟨by rfl, ?_⟩) hHeld ?_
          rotate_left
          · intro w hSw
            obtain ⟨nd, rfl⟩ := hSw
            obtain ⟨l0, l1, l2, l3⟩ := HL.out.read HX.out (below_drewN HB9.out nd)
            obtain ⟨p0, p1, p2, p3, _⟩ := c4_at (HP9.out.drew nd)
            go_simp
            try with_reducible rfl
          try simp only [Act.put, List.setIfInBounds_toArray, List.set_cons_zero, List.set_cons_succ]
          refine wpAnyH_take (i := 6) (oi := { dst := some 44, op := Op.load 30 (Operand.tmp 4), type := 30, pos := "outright.go:70", after := #[{ on := 1, ground := Ground.guard }], guard := some (1, false) }) (v := ?_) rfl (by kernel_rfl) (by kernel_rfl) (by kernel_rfl) (fun _ _ _ h => h) (Or.inl ⟨by rfl, ?_⟩) hHeld ?_
          rotate_left
          · intro w hSw
            obtain ⟨nd, rfl⟩ := hSw
            obtain ⟨l0, l1, l2, l3⟩ := HL.out.read HX.out (below_drewN HB9.out nd)
            obtain ⟨p0, p1, p2, p3, _⟩ := c4_at (HP9.out.drew nd)
            go_simp
            try with_reducible rfl
          try simp only [Act.put, List.setIfInBounds_toArray, List.set_cons_zero, List.set_cons_succ]
          refine wpAnyH_take (i := 7) (oi := { dst := some 45, op := Op.binOp BinOp.eql 30 (Operand.tmp 43) (Operand.tmp 44) 30, type := 4, pos := "outright.go:70", after := #[{ on := 5, ground := Ground.data }, { on := 6, ground := Ground.data }, { on := 1, ground := Ground.guard }], guard := some (1, false) }) (v := .bool false) rfl (by kernel_rfl) (by kernel_rfl) (by kernel_rfl) (fun _ _ _ h => h) (Or.inl ⟨by rfl, ?_⟩) hHeld ?_
          · intro w hSw
            clear hSw
            go_simp
            exact px_no HNE.out
          try simp only [Act.put, List.setIfInBounds_toArray, List.set_cons_zero, List.set_cons_succ]
          refine wpAnyH_take (i := 8) (oi := { dst := some 46, op := Op.pick (Operand.tmp 39) (Operand.const (Value.bool true)) (Operand.tmp 45), type := 4, pos := "outright.go:70", after := #[{ on := 1, ground := Ground.data }, { on := 7, ground := Ground.data }], guard := none }) (v := ?_) rfl (by kernel_rfl) (by kernel_rfl) (by kernel_rfl) (fun _ _ _ h => h) (Or.inl ⟨by rfl, ?_⟩) hHeld ?_
          rotate_left
          · intro w hSw
            clear hSw
            go_simp
            try with_reducible rfl
          try simp only [Act.put, List.setIfInBounds_toArray, List.set_cons_zero, List.set_cons_succ]
          refine wpAnyH_take (i := 9) (oi := { dst := some 8, op := Op.assign (Operand.tmp 46), type := 4, pos := "outright.go:70", after := #[{ on := 8, ground := Ground.data }, { on := 1, ground := Ground.chain }, { on := 0, ground := Ground.phase }, { on := 1, ground := Ground.phase }, { on := 2, ground := Ground.phase }, { on := 3, ground := Ground.phase }, { on := 4, ground := Ground.phase }, { on := 5, ground := Ground.phase }, { on := 6, ground := Ground.phase }, { on := 7, ground := Ground.phase }, { on := 8, ground := Ground.phase }], guard := none }) (v := ?_) rfl (by kernel_rfl) (by kernel_rfl) (by kernel_rfl) (fun _ _ _ h => h) (Or.inl ⟨by rfl, ?_⟩) hHeld ?_
          rotate_left
          · intro w hSw
            clear hSw
            go_simp
            try with_reducible rfl
          try simp only [Act.put, List.setIfInBounds_toArray, List.set_cons_zero, List.set_cons_succ]
          refine wpAnyH_done (by kernel_rfl) ?_ _
          clear hHeld
          go_wp2_with fail
          exact ⟨⟨k + 1, false, by omega, by go_num, rfl, HT9.out.below (below_drewN (Below.refl _ _) 1), HTH2⟩, by simp [intOf]; omega⟩
    · obtain rfl : N = k := by omega
      by_cases hl : 30 < len
      · obtain rfl : N = 30 := by
          have := HN3.out
          omega
        have HTN := Lib.hid HT.out
        obtain ⟨X3, ha, h2, h3⟩ := HT.out
        have HA3 := Lib.hid ha
        have H23 := Lib.hid h2
        have H33 := Lib.hid h3
        clear ha h2 h3
        obtain ⟨p0, p1, p2, p3, _⟩ := c4_at (HPV.out wr H33.out)
        have hz3 : W.heap.size < wr.heap.size := Nat.lt_of_lt_of_le hpl H33.out.size
        go_wp2_with fail
        refine (cost_any next _ _ _ _ HA3.out).mono ?_
        rintro e w4 ⟨hb4, a, is, rfl, hca⟩
        have HCA := Lib.hid hca
        have HT4 := Lib.hid (HTN.out.below hb4)
        clear hb4 hca HA3 H23 H33 p0 p1 p2 p3 HTN HT
        obtain ⟨X4, ha, h2, h3⟩ := HT4.out
        have HA4 := Lib.hid ha
        have H24 := Lib.hid h2
        have H34 := Lib.hid h3
        clear ha h2 h3
        obtain ⟨p0, p1, p2, p3, _⟩ := c4_at (HPV.out w4 H34.out)
        have hz4 : W.heap.size < w4.heap.size := Nat.lt_of_lt_of_le hpl H34.out.size
        go_wp2_with fail
        refine (add_any p.fam p.rd p.addr p.len 77 HPI.out _ _ _ _ HA4.out).mono ?_
        rintro e w5 hp5
        by_cases hok : wOk p.fam p.rd p.addr p.len 77
        · have HOK := Lib.hid hok
          obtain ⟨rfl, X5, k1, k2, k3⟩ := hp5.yes hok
          have HT5 : Hid (OneAt w1 w5 (w1.heap.size + 1) (setM (MI L 30) p.tp 77)) := OneAt.turn H24.out H34.out k1 k2 k3
          clear hp5 hok k1 k2 k3 HA4 H24 H34 p0 p1 p2 p3
          obtain ⟨X5, ha, h2, h3⟩ := HT5.out
          have HA5 := Lib.hid ha
          have H25 := Lib.hid h2
          have H35 := Lib.hid h3
          clear ha h2 h3
          obtain ⟨p0, p1, p2, p3, _⟩ := c4_at (HPV.out w5 H35.out)
          have hz5 : W.heap.size < w5.heap.size := Nat.lt_of_lt_of_le hpl H35.out.size
          go_wp2_with fail
          refine (cost_any next _ _ _ _ HA5.out).mono ?_
          rintro e w6 ⟨hb6, b, so, rfl, hcb⟩
          have HCB := Lib.hid hcb
          have HT6 := Lib.hid (HT5.out.below hb6)
          clear hb6 hcb HA5 H25 H35 p0 p1 p2 p3
          obtain ⟨X6, ha, h2, h3⟩ := HT6.out
          have HA6 := Lib.hid ha
          have H26 := Lib.hid h2
          have H36 := Lib.hid h3
          clear ha h2 h3
          obtain ⟨p0, p1, p2, p3, _⟩ := c4_at (HPV.out w6 H36.out)
          have hz6 : W.heap.size < w6.heap.size := Nat.lt_of_lt_of_le hpl H36.out.size
          by_cases s16 : next.size = 16
          · have e16 : ((next.size : Int) == 16) = true := by rw [beq_iff_eq]; omega
            have HS := Lib.hid s16
            clear s16
            go_wp2_with fail
            refine calls_name fun V6 hV6 => ?_
            have HV6 : Hid (Below w6.heap.size w6 V6) := by
              rw [hV6]
              clear hV6
              show Below _ _ _
              repeat' (first | with_reducible exact Below.refl _ _ | with_reducible refine Below.setCell ?_ (by first | omega | (simp; omega) | simp) _ | with_reducible refine Below.alloc ?_ (by first | omega | (simp; omega) | simp) _)
            clear hV6
            refine (covers_any p ⟨2, 0, next, 128⟩ (whole_ok16 HS.out) V6).mono ?_
            rintro e w7 ⟨hb7, r, rfl, hr⟩
            have HT7 := Lib.hid (HT6.out.below (HV6.out.trans (hb7.mono HV6.out.size)))
            clear hb7 HV6 HA6 H26 H36 p0 p1 p2 p3
            obtain ⟨X7, ha, h2, h3⟩ := HT7.out
            have HA7 := Lib.hid ha
            have H27 := Lib.hid h2
            have H37 := Lib.hid h3
            clear ha h2 h3
            obtain ⟨p0, p1, p2, p3, _⟩ := c4_at (HPV.out w7 H37.out)
            have hz7 : W.heap.size < w7.heap.size := Nat.lt_of_lt_of_le hpl H37.out.size
            cases r with
            | false =>
              have hnc : ¬ covX p ⟨2, 0, next, 128⟩ := fun h => by cases hr.2 h
              obtain ⟨hba, hso⟩ := CostOf.apart (MI.flat L 30) (Px.tp_ok HOK.out) HOK.out.1.2.2.1 (fun h4 => absurd (h4.symm.trans HS.out) (by decide)) (fun _ => hnc) HCA.out HCB.out
              subst hba hso
              clear hr hnc
              cases th with
              | true =>
                go_wp2_with fail
                go_ret
                exact ⟨rfl, HB1.out.trans (H37.out.mono HB1.out.size)⟩
              | false =>
                go_wp2_with fail
                refine (wdel_any p HPI.out _ _ _ _ HA7.out).mono ?_
                rintro e w8 hd
                obtain ⟨g, rfl, ht8, hg⟩ := OneAt.del hd H27.out H37.out HOK.out.1
                obtain rfl : g = true := hg.2 ⟨77, Or.inl ⟨rfl, rfl⟩⟩
                have HT8 := Lib.hid ht8
                clear hd ht8 hg p0 p1 p2 p3
                obtain ⟨X8, ha, h2, h3⟩ := HT8.out
                have HA8 := Lib.hid ha
                have H28 := Lib.hid h2
                have H38 := Lib.hid h3
                clear ha h2 h3
                obtain ⟨p0, p1, p2, p3, _⟩ := c4_at (HPV.out w8 H38.out)
                have hz8 : W.heap.size < w8.heap.size := Nat.lt_of_lt_of_le hpl H38.out.size
                go_wp2_with fail
                refine (wdel_any p HPI.out _ _ _ _ HA8.out).mono ?_
                rintro e w9 hd
                obtain ⟨g, rfl, ht9, hg⟩ := OneAt.del hd H28.out H38.out HOK.out.1
                obtain rfl : g = false := by
                  cases g with
                  | false => rfl
                  | true =>
                    obtain ⟨x, h1, _⟩ := hg.1 rfl
                    exact absurd rfl h1
                have HT9 : Hid (OneAt w1 w9 (w1.heap.size + 1) (MI L 30)) := ht9.same fun q x => by
                  have hfr := MI.fresh (k := 30) HOK.out (fun h => by cases HTH.out.2 h)
                  constructor
                  · rintro ⟨h1, _, h2 | h2⟩
                    · exact absurd h2.1 h1
                    · exact h2.2
                  · intro h
                    have h1 : q ≠ p.tp := fun e => hfr x (e ▸ h)
                    exact ⟨h1, h1, Or.inr ⟨h1, h⟩⟩
                clear hd ht9 hg p0 p1 p2 p3
                obtain ⟨X9, ha, h2, h3⟩ := HT9.out
                have HA9 := Lib.hid ha
                have H29 := Lib.hid h2
                have H39 := Lib.hid h3
                clear ha h2 h3
                obtain ⟨p0, p1, p2, p3, _⟩ := c4_at (HPV.out w9 H39.out)
                have hz9 : W.heap.size < w9.heap.size := Nat.lt_of_lt_of_le hpl H39.out.size
                go_wp2_with fail
                refine (cost_any next _ _ _ _ HA9.out).mono ?_
                rintro e w10 ⟨hb10, c, still, rfl, hcc⟩
                obtain ⟨rfl, rfl⟩ := CostOf.uniq (MI.flat L 30).hM HCA.out hcc
                have HBF : Hid (Below W.heap.size W w10) := HB1.out.trans ((H39.out.trans (hb10.mono H39.out.size)).mono HB1.out.size)
                clear hb10 hcc
                go_wp2_with fail
                go_ret
                exact ⟨rfl, HBF.out⟩
            | true =>
              by_cases hba : b = a
              · subst hba
                clear hr
                cases th with
                | true =>
                  go_wp2_with fail
                  go_ret
                  exact ⟨rfl, HB1.out.trans (H37.out.mono HB1.out.size)⟩
                | false =>
                  go_wp2_with fail
                  refine (wdel_any p HPI.out _ _ _ _ HA7.out).mono ?_
                  rintro e w8 hd
                  obtain ⟨g, rfl, ht8, hg⟩ := OneAt.del hd H27.out H37.out HOK.out.1
                  obtain rfl : g = true := hg.2 ⟨77, Or.inl ⟨rfl, rfl⟩⟩
                  have HT8 := Lib.hid ht8
                  clear hd ht8 hg p0 p1 p2 p3
                  obtain ⟨X8, ha, h2, h3⟩ := HT8.out
                  have HA8 := Lib.hid ha
                  have H28 := Lib.hid h2
                  have H38 := Lib.hid h3
                  clear ha h2 h3
                  obtain ⟨p0, p1, p2, p3, _⟩ := c4_at (HPV.out w8 H38.out)
                  have hz8 : W.heap.size < w8.heap.size := Nat.lt_of_lt_of_le hpl H38.out.size
                  go_wp2_with fail
                  refine (wdel_any p HPI.out _ _ _ _ HA8.out).mono ?_
                  rintro e w9 hd
                  obtain ⟨g, rfl, ht9, hg⟩ := OneAt.del hd H28.out H38.out HOK.out.1
                  obtain rfl : g = false := by
                    cases g with
                    | false => rfl
                    | true =>
                      obtain ⟨x, h1, _⟩ := hg.1 rfl
                      exact absurd rfl h1
                  have HT9 : Hid (OneAt w1 w9 (w1.heap.size + 1) (MI L 30)) := ht9.same fun q x => by
                    have hfr := MI.fresh (k := 30) HOK.out (fun h => by cases HTH.out.2 h)
                    constructor
                    · rintro ⟨h1, _, h2 | h2⟩
                      · exact absurd h2.1 h1
                      · exact h2.2
                    · intro h
                      have h1 : q ≠ p.tp := fun e => hfr x (e ▸ h)
                      exact ⟨h1, h1, Or.inr ⟨h1, h⟩⟩
                  clear hd ht9 hg p0 p1 p2 p3
                  obtain ⟨X9, ha, h2, h3⟩ := HT9.out
                  have HA9 := Lib.hid ha
                  have H29 := Lib.hid h2
                  have H39 := Lib.hid h3
                  clear ha h2 h3
                  obtain ⟨p0, p1, p2, p3, _⟩ := c4_at (HPV.out w9 H39.out)
                  have hz9 : W.heap.size < w9.heap.size := Nat.lt_of_lt_of_le hpl H39.out.size
                  go_wp2_with fail
                  refine (cost_any next _ _ _ _ HA9.out).mono ?_
                  rintro e w10 ⟨hb10, c, still, rfl, hcc⟩
                  obtain ⟨rfl, rfl⟩ := CostOf.uniq (MI.flat L 30).hM HCA.out hcc
                  have HBF : Hid (Below W.heap.size W w10) := HB1.out.trans ((H39.out.trans (hb10.mono H39.out.size)).mono HB1.out.size)
                  clear hb10 hcc
                  go_wp2_with fail
                  go_ret
                  exact ⟨rfl, HBF.out⟩
              · obtain rfl : b = 77 := (CostOf.more (MI.flat L 30) (Px.tp_ok HOK.out) HCA.out HCB.out).resolve_left hba
                have e7 : ((77 : Int) == a) = false := by rw [beq_eq_false_iff_ne]; exact hba
                have e8 : ((77 : Int) != a) = true := by rw [bne, e7]; rfl
                clear hr hba
                cases th with
                | true =>
                  go_wp2_with fail
                  go_ret
                  exact ⟨rfl, HB1.out.trans (H37.out.mono HB1.out.size)⟩
                | false =>
                  go_wp2_with fail
                  refine (wdel_any p HPI.out _ _ _ _ HA7.out).mono ?_
                  rintro e w8 hd
                  obtain ⟨g, rfl, ht8, hg⟩ := OneAt.del hd H27.out H37.out HOK.out.1
                  obtain rfl : g = true := hg.2 ⟨77, Or.inl ⟨rfl, rfl⟩⟩
                  have HT8 := Lib.hid ht8
                  clear hd ht8 hg p0 p1 p2 p3
                  obtain ⟨X8, ha, h2, h3⟩ := HT8.out
                  have HA8 := Lib.hid ha
                  have H28 := Lib.hid h2
                  have H38 := Lib.hid h3
                  clear ha h2 h3
                  obtain ⟨p0, p1, p2, p3, _⟩ := c4_at (HPV.out w8 H38.out)
                  have hz8 : W.heap.size < w8.heap.size := Nat.lt_of_lt_of_le hpl H38.out.size
                  go_wp2_with fail
                  refine (wdel_any p HPI.out _ _ _ _ HA8.out).mono ?_
                  rintro e w9 hd
                  obtain ⟨g, rfl, ht9, hg⟩ := OneAt.del hd H28.out H38.out HOK.out.1
                  obtain rfl : g = false := by
                    cases g with
                    | false => rfl
                    | true =>
                      obtain ⟨x, h1, _⟩ := hg.1 rfl
                      exact absurd rfl h1
                  have HT9 : Hid (OneAt w1 w9 (w1.heap.size + 1) (MI L 30)) := ht9.same fun q x => by
                    have hfr := MI.fresh (k := 30) HOK.out (fun h => by cases HTH.out.2 h)
                    constructor
                    · rintro ⟨h1, _, h2 | h2⟩
                      · exact absurd h2.1 h1
                      · exact h2.2
                    · intro h
                      have h1 : q ≠ p.tp := fun e => hfr x (e ▸ h)
                      exact ⟨h1, h1, Or.inr ⟨h1, h⟩⟩
                  clear hd ht9 hg p0 p1 p2 p3
                  obtain ⟨X9, ha, h2, h3⟩ := HT9.out
                  have HA9 := Lib.hid ha
                  have H29 := Lib.hid h2
                  have H39 := Lib.hid h3
                  clear ha h2 h3
                  obtain ⟨p0, p1, p2, p3, _⟩ := c4_at (HPV.out w9 H39.out)
                  have hz9 : W.heap.size < w9.heap.size := Nat.lt_of_lt_of_le hpl H39.out.size
                  go_wp2_with fail
                  refine (cost_any next _ _ _ _ HA9.out).mono ?_
                  rintro e w10 ⟨hb10, c, still, rfl, hcc⟩
                  obtain ⟨rfl, rfl⟩ := CostOf.uniq (MI.flat L 30).hM HCA.out hcc
                  have HBF : Hid (Below W.heap.size W w10) := HB1.out.trans ((H39.out.trans (hb10.mono H39.out.size)).mono HB1.out.size)
                  clear hb10 hcc
                  go_wp2_with fail
                  go_ret
                  exact ⟨rfl, HBF.out⟩
          · have e16 : ((next.size : Int) == 16) = false := by rw [beq_eq_false_iff_ne]; omega
            have HS := Lib.hid s16
            clear s16
            go_wp2_with fail
            refine calls_name fun V6 hV6 => ?_
            have HV6 : Hid (Below w6.heap.size w6 V6) := by
              rw [hV6]
              clear hV6
              show Below _ _ _
              repeat' (first | with_reducible exact Below.refl _ _ | with_reducible refine Below.setCell ?_ (by first | omega | (simp; omega) | simp) _ | with_reducible refine Below.alloc ?_ (by first | omega | (simp; omega) | simp) _)
            clear hV6
            by_cases s4 : next.size = 4
            · refine (covers_any p ⟨1, 0, next, 32⟩ (whole_ok4 s4) V6).mono ?_
              rintro e w7 ⟨hb7, r, rfl, hr⟩
              have HT7 := Lib.hid (HT6.out.below (HV6.out.trans (hb7.mono HV6.out.size)))
              clear hb7 HV6 HA6 H26 H36 p0 p1 p2 p3 s4
              obtain ⟨X7, ha, h2, h3⟩ := HT7.out
              have HA7 := Lib.hid ha
              have H27 := Lib.hid h2
              have H37 := Lib.hid h3
              clear ha h2 h3
              obtain ⟨p0, p1, p2, p3, _⟩ := c4_at (HPV.out w7 H37.out)
              have hz7 : W.heap.size < w7.heap.size := Nat.lt_of_lt_of_le hpl H37.out.size
              cases r with
              | false =>
                have hnc : ¬ covX p ⟨1, 0, next, 32⟩ := fun h => by cases hr.2 h
                obtain ⟨hba, hso⟩ := CostOf.apart (MI.flat L 30) (Px.tp_ok HOK.out) HOK.out.1.2.2.1 (fun _ => hnc) (fun h => absurd h HS.out) HCA.out HCB.out
                subst hba hso
                clear hr hnc
                cases th with
                | true =>
                  go_wp2_with fail
                  go_ret
                  exact ⟨rfl, HB1.out.trans (H37.out.mono HB1.out.size)⟩
                | false =>
                  go_wp2_with fail
                  refine (wdel_any p HPI.out _ _ _ _ HA7.out).mono ?_
                  rintro e w8 hd
                  obtain ⟨g, rfl, ht8, hg⟩ := OneAt.del hd H27.out H37.out HOK.out.1
                  obtain rfl : g = true := hg.2 ⟨77, Or.inl ⟨rfl, rfl⟩⟩
                  have HT8 := Lib.hid ht8
                  clear hd ht8 hg p0 p1 p2 p3
                  obtain ⟨X8, ha, h2, h3⟩ := HT8.out
                  have HA8 := Lib.hid ha
                  have H28 := Lib.hid h2
                  have H38 := Lib.hid h3
                  clear ha h2 h3
                  obtain ⟨p0, p1, p2, p3, _⟩ := c4_at (HPV.out w8 H38.out)
                  have hz8 : W.heap.size < w8.heap.size := Nat.lt_of_lt_of_le hpl H38.out.size
                  go_wp2_with fail
                  refine (wdel_any p HPI.out _ _ _ _ HA8.out).mono ?_
                  rintro e w9 hd
                  obtain ⟨g, rfl, ht9, hg⟩ := OneAt.del hd H28.out H38.out HOK.out.1
                  obtain rfl : g = false := by
                    cases g with
                    | false => rfl
                    | true =>
                      obtain ⟨x, h1, _⟩ := hg.1 rfl
                      exact absurd rfl h1
                  have HT9 : Hid (OneAt w1 w9 (w1.heap.size + 1) (MI L 30)) := ht9.same fun q x => by
                    have hfr := MI.fresh (k := 30) HOK.out (fun h => by cases HTH.out.2 h)
                    constructor
                    · rintro ⟨h1, _, h2 | h2⟩
                      · exact absurd h2.1 h1
                      · exact h2.2
                    · intro h
                      have h1 : q ≠ p.tp := fun e => hfr x (e ▸ h)
                      exact ⟨h1, h1, Or.inr ⟨h1, h⟩⟩
                  clear hd ht9 hg p0 p1 p2 p3
                  obtain ⟨X9, ha, h2, h3⟩ := HT9.out
                  have HA9 := Lib.hid ha
                  have H29 := Lib.hid h2
                  have H39 := Lib.hid h3
                  clear ha h2 h3
                  obtain ⟨p0, p1, p2, p3, _⟩ := c4_at (HPV.out w9 H39.out)
                  have hz9 : W.heap.size < w9.heap.size := Nat.lt_of_lt_of_le hpl H39.out.size
                  go_wp2_with fail
                  refine (cost_any next _ _ _ _ HA9.out).mono ?_
                  rintro e w10 ⟨hb10, c, still, rfl, hcc⟩
                  obtain ⟨rfl, rfl⟩ := CostOf.uniq (MI.flat L 30).hM HCA.out hcc
                  have HBF : Hid (Below W.heap.size W w10) := HB1.out.trans ((H39.out.trans (hb10.mono H39.out.size)).mono HB1.out.size)
                  clear hb10 hcc
                  go_wp2_with fail
                  go_ret
                  exact ⟨rfl, HBF.out⟩
              | true =>
                by_cases hba : b = a
                · subst hba
                  clear hr
                  cases th with
                  | true =>
                    go_wp2_with fail
                    go_ret
                    exact ⟨rfl, HB1.out.trans (H37.out.mono HB1.out.size)⟩
                  | false =>
                    go_wp2_with fail
                    refine (wdel_any p HPI.out _ _ _ _ HA7.out).mono ?_
                    rintro e w8 hd
                    obtain ⟨g, rfl, ht8, hg⟩ := OneAt.del hd H27.out H37.out HOK.out.1
                    obtain rfl : g = true := hg.2 ⟨77, Or.inl ⟨rfl, rfl⟩⟩
                    have HT8 := Lib.hid ht8
                    clear hd ht8 hg p0 p1 p2 p3
                    obtain ⟨X8, ha, h2, h3⟩ := HT8.out
                    have HA8 := Lib.hid ha
                    have H28 := Lib.hid h2
                    have H38 := Lib.hid h3
                    clear ha h2 h3
                    obtain ⟨p0, p1, p2, p3, _⟩ := c4_at (HPV.out w8 H38.out)
                    have hz8 : W.heap.size < w8.heap.size := Nat.lt_of_lt_of_le hpl H38.out.size
                    go_wp2_with fail
                    refine (wdel_any p HPI.out _ _ _ _ HA8.out).mono ?_
                    rintro e w9 hd
                    obtain ⟨g, rfl, ht9, hg⟩ := OneAt.del hd H28.out H38.out HOK.out.1
                    obtain rfl : g = false := by
                      cases g with
                      | false => rfl
                      | true =>
                        obtain ⟨x, h1, _⟩ := hg.1 rfl
                        exact absurd rfl h1
                    have HT9 : Hid (OneAt w1 w9 (w1.heap.size + 1) (MI L 30)) := ht9.same fun q x => by
                      have hfr := MI.fresh (k := 30) HOK.out (fun h => by cases HTH.out.2 h)
                      constructor
                      · rintro ⟨h1, _, h2 | h2⟩
                        · exact absurd h2.1 h1
                        · exact h2.2
                      · intro h
                        have h1 : q ≠ p.tp := fun e => hfr x (e ▸ h)
                        exact ⟨h1, h1, Or.inr ⟨h1, h⟩⟩
                    clear hd ht9 hg p0 p1 p2 p3
                    obtain ⟨X9, ha, h2, h3⟩ := HT9.out
                    have HA9 := Lib.hid ha
                    have H29 := Lib.hid h2
                    have H39 := Lib.hid h3
                    clear ha h2 h3
                    obtain ⟨p0, p1, p2, p3, _⟩ := c4_at (HPV.out w9 H39.out)
                    have hz9 : W.heap.size < w9.heap.size := Nat.lt_of_lt_of_le hpl H39.out.size
                    go_wp2_with fail
                    refine (cost_any next _ _ _ _ HA9.out).mono ?_
                    rintro e w10 ⟨hb10, c, still, rfl, hcc⟩
                    obtain ⟨rfl, rfl⟩ := CostOf.uniq (MI.flat L 30).hM HCA.out hcc
                    have HBF : Hid (Below W.heap.size W w10) := HB1.out.trans ((H39.out.trans (hb10.mono H39.out.size)).mono HB1.out.size)
                    clear hb10 hcc
                    go_wp2_with fail
                    go_ret
                    exact ⟨rfl, HBF.out⟩
                · obtain rfl : b = 77 := (CostOf.more (MI.flat L 30) (Px.tp_ok HOK.out) HCA.out HCB.out).resolve_left hba
                  have e7 : ((77 : Int) == a) = false := by rw [beq_eq_false_iff_ne]; exact hba
                  have e8 : ((77 : Int) != a) = true := by rw [bne, e7]; rfl
                  clear hr hba
                  cases th with
                  | true =>
                    go_wp2_with fail
                    go_ret
                    exact ⟨rfl, HB1.out.trans (H37.out.mono HB1.out.size)⟩
                  | false =>
                    go_wp2_with fail
                    refine (wdel_any p HPI.out _ _ _ _ HA7.out).mono ?_
                    rintro e w8 hd
                    obtain ⟨g, rfl, ht8, hg⟩ := OneAt.del hd H27.out H37.out HOK.out.1
                    obtain rfl : g = true := hg.2 ⟨77, Or.inl ⟨rfl, rfl⟩⟩
                    have HT8 := Lib.hid ht8
                    clear hd ht8 hg p0 p1 p2 p3
                    obtain ⟨X8, ha, h2, h3⟩ := HT8.out
                    have HA8 := Lib.hid ha
                    have H28 := Lib.hid h2
                    have H38 := Lib.hid h3
                    clear ha h2 h3
                    obtain ⟨p0, p1, p2, p3, _⟩ := c4_at (HPV.out w8 H38.out)
                    have hz8 : W.heap.size < w8.heap.size := Nat.lt_of_lt_of_le hpl H38.out.size
                    go_wp2_with fail
                    refine (wdel_any p HPI.out _ _ _ _ HA8.out).mono ?_
                    rintro e w9 hd
                    obtain ⟨g, rfl, ht9, hg⟩ := OneAt.del hd H28.out H38.out HOK.out.1
                    obtain rfl : g = false := by
                      cases g with
                      | false => rfl
                      | true =>
                        obtain ⟨x, h1, _⟩ := hg.1 rfl
                        exact absurd rfl h1
                    have HT9 : Hid (OneAt w1 w9 (w1.heap.size + 1) (MI L 30)) := ht9.same fun q x => by
                      have hfr := MI.fresh (k := 30) HOK.out (fun h => by cases HTH.out.2 h)
                      constructor
                      · rintro ⟨h1, _, h2 | h2⟩
                        · exact absurd h2.1 h1
                        · exact h2.2
                      · intro h
                        have h1 : q ≠ p.tp := fun e => hfr x (e ▸ h)
                        exact ⟨h1, h1, Or.inr ⟨h1, h⟩⟩
                    clear hd ht9 hg p0 p1 p2 p3
                    obtain ⟨X9, ha, h2, h3⟩ := HT9.out
                    have HA9 := Lib.hid ha
                    have H29 := Lib.hid h2
                    have H39 := Lib.hid h3
                    clear ha h2 h3
                    obtain ⟨p0, p1, p2, p3, _⟩ := c4_at (HPV.out w9 H39.out)
                    have hz9 : W.heap.size < w9.heap.size := Nat.lt_of_lt_of_le hpl H39.out.size
                    go_wp2_with fail
                    refine (cost_any next _ _ _ _ HA9.out).mono ?_
                    rintro e w10 ⟨hb10, c, still, rfl, hcc⟩
                    obtain ⟨rfl, rfl⟩ := CostOf.uniq (MI.flat L 30).hM HCA.out hcc
                    have HBF : Hid (Below W.heap.size W w10) := HB1.out.trans ((H39.out.trans (hb10.mono H39.out.size)).mono HB1.out.size)
                    clear hb10 hcc
                    go_wp2_with fail
                    go_ret
                    exact ⟨rfl, HBF.out⟩
            · refine (covers_bad p ⟨1, 0, next, 32⟩ (fun h => s4 (by
                have h1 : (next.size : Int) = famSize 1 := h.2.1
                have h2 : famSize 1 = 4 := rfl
                omega)) (by
                have := hs
                omega) V6).mono ?_
              rintro e w7 ⟨rfl, hb7⟩
              have HT7 := Lib.hid (HT6.out.below (HV6.out.trans (hb7.mono HV6.out.size)))
              obtain ⟨hba, hso⟩ := CostOf.apart (MI.flat L 30) (Px.tp_ok HOK.out) HOK.out.1.2.2.1 (fun h => absurd h s4) (fun h => absurd h HS.out) HCA.out HCB.out
              subst hba hso
              clear hb7 HV6 HA6 H26 H36 p0 p1 p2 p3 s4
              obtain ⟨X7, ha, h2, h3⟩ := HT7.out
              have HA7 := Lib.hid ha
              have H27 := Lib.hid h2
              have H37 := Lib.hid h3
              clear ha h2 h3
              obtain ⟨p0, p1, p2, p3, _⟩ := c4_at (HPV.out w7 H37.out)
              have hz7 : W.heap.size < w7.heap.size := Nat.lt_of_lt_of_le hpl H37.out.size
              cases th with
              | true =>
                go_wp2_with fail
                go_ret
                exact ⟨rfl, HB1.out.trans (H37.out.mono HB1.out.size)⟩
              | false =>
                go_wp2_with fail
                refine (wdel_any p HPI.out _ _ _ _ HA7.out).mono ?_
                rintro e w8 hd
                obtain ⟨g, rfl, ht8, hg⟩ := OneAt.del hd H27.out H37.out HOK.out.1
                obtain rfl : g = true := hg.2 ⟨77, Or.inl ⟨rfl, rfl⟩⟩
                have HT8 := Lib.hid ht8
                clear hd ht8 hg p0 p1 p2 p3
                obtain ⟨X8, ha, h2, h3⟩ := HT8.out
                have HA8 := Lib.hid ha
                have H28 := Lib.hid h2
                have H38 := Lib.hid h3
                clear ha h2 h3
                obtain ⟨p0, p1, p2, p3, _⟩ := c4_at (HPV.out w8 H38.out)
                have hz8 : W.heap.size < w8.heap.size := Nat.lt_of_lt_of_le hpl H38.out.size
                go_wp2_with fail
                refine (wdel_any p HPI.out _ _ _ _ HA8.out).mono ?_
                rintro e w9 hd
                obtain ⟨g, rfl, ht9, hg⟩ := OneAt.del hd H28.out H38.out HOK.out.1
                obtain rfl : g = false := by
                  cases g with
                  | false => rfl
                  | true =>
                    obtain ⟨x, h1, _⟩ := hg.1 rfl
                    exact absurd rfl h1
                have HT9 : Hid (OneAt w1 w9 (w1.heap.size + 1) (MI L 30)) := ht9.same fun q x => by
                  have hfr := MI.fresh (k := 30) HOK.out (fun h => by cases HTH.out.2 h)
                  constructor
                  · rintro ⟨h1, _, h2 | h2⟩
                    · exact absurd h2.1 h1
                    · exact h2.2
                  · intro h
                    have h1 : q ≠ p.tp := fun e => hfr x (e ▸ h)
                    exact ⟨h1, h1, Or.inr ⟨h1, h⟩⟩
                clear hd ht9 hg p0 p1 p2 p3
                obtain ⟨X9, ha, h2, h3⟩ := HT9.out
                have HA9 := Lib.hid ha
                have H29 := Lib.hid h2
                have H39 := Lib.hid h3
                clear ha h2 h3
                obtain ⟨p0, p1, p2, p3, _⟩ := c4_at (HPV.out w9 H39.out)
                have hz9 : W.heap.size < w9.heap.size := Nat.lt_of_lt_of_le hpl H39.out.size
                go_wp2_with fail
                refine (cost_any next _ _ _ _ HA9.out).mono ?_
                rintro e w10 ⟨hb10, c, still, rfl, hcc⟩
                obtain ⟨rfl, rfl⟩ := CostOf.uniq (MI.flat L 30).hM HCA.out hcc
                have HBF : Hid (Below W.heap.size W w10) := HB1.out.trans ((H39.out.trans (hb10.mono H39.out.size)).mono HB1.out.size)
                clear hb10 hcc
                go_wp2_with fail
                go_ret
                exact ⟨rfl, HBF.out⟩
        · have hq : e = .returned (.int .i64 2) ∧ Below w4.heap.size w4 w5 := by
            rcases hp5 with ⟨_, h1, h2⟩ | ⟨h1, _⟩
            · exact ⟨h1, h2⟩
            · exact absurd h1 hok
          obtain ⟨rfl, hb5⟩ := hq
          have HT5 := Lib.hid (HT4.out.below hb5)
          clear hp5 hok hb5 HA4 H24 H34 p0 p1 p2 p3
          obtain ⟨X5, ha, h2, h3⟩ := HT5.out
          have HA5 := Lib.hid ha
          have H25 := Lib.hid h2
          have H35 := Lib.hid h3
          clear ha h2 h3
          obtain ⟨p0, p1, p2, p3, _⟩ := c4_at (HPV.out w5 H35.out)
          have hz5 : W.heap.size < w5.heap.size := Nat.lt_of_lt_of_le hpl H35.out.size
          go_wp2_with fail
          refine (cost_any next _ _ _ _ HA5.out).mono ?_
          rintro e w6 ⟨hb6, b, so, rfl, hcb⟩
          obtain ⟨rfl, rfl⟩ := CostOf.uniq (MI.flat L 30).hM HCA.out hcb
          have HT6 := Lib.hid (HT5.out.below hb6)
          clear hb6 hcb HA5 H25 H35 p0 p1 p2 p3
          obtain ⟨X6, ha, h2, h3⟩ := HT6.out
          have HA6 := Lib.hid ha
          have H26 := Lib.hid h2
          have H36 := Lib.hid h3
          clear ha h2 h3
          obtain ⟨p0, p1, p2, p3, _⟩ := c4_at (HPV.out w6 H36.out)
          have hz6 : W.heap.size < w6.heap.size := Nat.lt_of_lt_of_le hpl H36.out.size
          have HF : Hid (∀ V, Below w6.heap.size w6 V → Below W.heap.size W V) := fun V h => HB1.out.trans ((H36.out.trans (h.mono H36.out.size)).mono HB1.out.size)
          by_cases s16 : next.size = 16
          · have e16 : ((next.size : Int) == 16) = true := by rw [beq_iff_eq]; omega
            clear s16
            cases th with
            | true =>
              go_wp2_with fail
              go_ret
              exact ⟨rfl, HF.out _ (by repeat' (first | with_reducible exact Below.refl _ _ | with_reducible refine Below.setCell ?_ (by first | omega | (simp; omega) | simp) _ | with_reducible refine Below.alloc ?_ (by first | omega | (simp; omega) | simp) _))⟩
            | false =>
              go_wp2_with fail
              go_ret
              exact ⟨rfl, HF.out _ (by repeat' (first | with_reducible exact Below.refl _ _ | with_reducible refine Below.setCell ?_ (by first | omega | (simp; omega) | simp) _ | with_reducible refine Below.alloc ?_ (by first | omega | (simp; omega) | simp) _))⟩
          · have e16 : ((next.size : Int) == 16) = false := by rw [beq_eq_false_iff_ne]; omega
            clear s16
            cases th with
            | true =>
              go_wp2_with fail
              go_ret
              exact ⟨rfl, HF.out _ (by repeat' (first | with_reducible exact Below.refl _ _ | with_reducible refine Below.setCell ?_ (by first | omega | (simp; omega) | simp) _ | with_reducible refine Below.alloc ?_ (by first | omega | (simp; omega) | simp) _))⟩
            | false =>
              go_wp2_with fail
              go_ret
              exact ⟨rfl, HF.out _ (by repeat' (first | with_reducible exact Below.refl _ _ | with_reducible refine Below.setCell ?_ (by first | omega | (simp; omega) | simp) _ | with_reducible refine Below.alloc ?_ (by first | omega | (simp; omega) | simp) _))⟩
      · obtain rfl : len = N := by
          have := HN3.out
          omega
        have HTN := Lib.hid HT.out
        obtain ⟨X3, ha, h2, h3⟩ := HT.out
        have HA3 := Lib.hid ha
        have H23 := Lib.hid h2
        have H33 := Lib.hid h3
        clear ha h2 h3
        obtain ⟨p0, p1, p2, p3, _⟩ := c4_at (HPV.out wr H33.out)
        have hz3 : W.heap.size < wr.heap.size := Nat.lt_of_lt_of_le hpl H33.out.size
        go_wp2_with fail
        refine (cost_any next _ _ _ _ HA3.out).mono ?_
        rintro e w4 ⟨hb4, a, is, rfl, hca⟩
        have HCA := Lib.hid hca
        have HT4 := Lib.hid (HTN.out.below hb4)
        clear hb4 hca HA3 H23 H33 p0 p1 p2 p3 HTN HT
        obtain ⟨X4, ha, h2, h3⟩ := HT4.out
        have HA4 := Lib.hid ha
        have H24 := Lib.hid h2
        have H34 := Lib.hid h3
        clear ha h2 h3
        obtain ⟨p0, p1, p2, p3, _⟩ := c4_at (HPV.out w4 H34.out)
        have hz4 : W.heap.size < w4.heap.size := Nat.lt_of_lt_of_le hpl H34.out.size
        go_wp2_with fail
        refine (add_any p.fam p.rd p.addr p.len 77 HPI.out _ _ _ _ HA4.out).mono ?_
        rintro e w5 hp5
        by_cases hok : wOk p.fam p.rd p.addr p.len 77
        · have HOK := Lib.hid hok
          obtain ⟨rfl, X5, k1, k2, k3⟩ := hp5.yes hok
          have HT5 : Hid (OneAt w1 w5 (w1.heap.size + 1) (setM (MI L len) p.tp 77)) := OneAt.turn H24.out H34.out k1 k2 k3
          clear hp5 hok k1 k2 k3 HA4 H24 H34 p0 p1 p2 p3
          obtain ⟨X5, ha, h2, h3⟩ := HT5.out
          have HA5 := Lib.hid ha
          have H25 := Lib.hid h2
          have H35 := Lib.hid h3
          clear ha h2 h3
          obtain ⟨p0, p1, p2, p3, _⟩ := c4_at (HPV.out w5 H35.out)
          have hz5 : W.heap.size < w5.heap.size := Nat.lt_of_lt_of_le hpl H35.out.size
          go_wp2_with fail
          refine (cost_any next _ _ _ _ HA5.out).mono ?_
          rintro e w6 ⟨hb6, b, so, rfl, hcb⟩
          have HCB := Lib.hid hcb
          have HT6 := Lib.hid (HT5.out.below hb6)
          clear hb6 hcb HA5 H25 H35 p0 p1 p2 p3
          obtain ⟨X6, ha, h2, h3⟩ := HT6.out
          have HA6 := Lib.hid ha
          have H26 := Lib.hid h2
          have H36 := Lib.hid h3
          clear ha h2 h3
          obtain ⟨p0, p1, p2, p3, _⟩ := c4_at (HPV.out w6 H36.out)
          have hz6 : W.heap.size < w6.heap.size := Nat.lt_of_lt_of_le hpl H36.out.size
          by_cases s16 : next.size = 16
          · have e16 : ((next.size : Int) == 16) = true := by rw [beq_iff_eq]; omega
            have HS := Lib.hid s16
            clear s16
            go_wp2_with fail
            refine calls_name fun V6 hV6 => ?_
            have HV6 : Hid (Below w6.heap.size w6 V6) := by
              rw [hV6]
              clear hV6
              show Below _ _ _
              repeat' (first | with_reducible exact Below.refl _ _ | with_reducible refine Below.setCell ?_ (by first | omega | (simp; omega) | simp) _ | with_reducible refine Below.alloc ?_ (by first | omega | (simp; omega) | simp) _)
            clear hV6
            refine (covers_any p ⟨2, 0, next, 128⟩ (whole_ok16 HS.out) V6).mono ?_
            rintro e w7 ⟨hb7, r, rfl, hr⟩
            have HT7 := Lib.hid (HT6.out.below (HV6.out.trans (hb7.mono HV6.out.size)))
            clear hb7 HV6 HA6 H26 H36 p0 p1 p2 p3
            obtain ⟨X7, ha, h2, h3⟩ := HT7.out
            have HA7 := Lib.hid ha
            have H27 := Lib.hid h2
            have H37 := Lib.hid h3
            clear ha h2 h3
            obtain ⟨p0, p1, p2, p3, _⟩ := c4_at (HPV.out w7 H37.out)
            have hz7 : W.heap.size < w7.heap.size := Nat.lt_of_lt_of_le hpl H37.out.size
            cases r with
            | false =>
              have hnc : ¬ covX p ⟨2, 0, next, 128⟩ := fun h => by cases hr.2 h
              obtain ⟨hba, hso⟩ := CostOf.apart (MI.flat L len) (Px.tp_ok HOK.out) HOK.out.1.2.2.1 (fun h4 => absurd (h4.symm.trans HS.out) (by decide)) (fun _ => hnc) HCA.out HCB.out
              subst hba hso
              clear hr hnc
              cases th with
              | true =>
                go_wp2_with fail
                go_ret
                exact ⟨rfl, HB1.out.trans (H37.out.mono HB1.out.size)⟩
              | false =>
                go_wp2_with fail
                refine (wdel_any p HPI.out _ _ _ _ HA7.out).mono ?_
                rintro e w8 hd
                obtain ⟨g, rfl, ht8, hg⟩ := OneAt.del hd H27.out H37.out HOK.out.1
                obtain rfl : g = true := hg.2 ⟨77, Or.inl ⟨rfl, rfl⟩⟩
                have HT8 := Lib.hid ht8
                clear hd ht8 hg p0 p1 p2 p3
                obtain ⟨X8, ha, h2, h3⟩ := HT8.out
                have HA8 := Lib.hid ha
                have H28 := Lib.hid h2
                have H38 := Lib.hid h3
                clear ha h2 h3
                obtain ⟨p0, p1, p2, p3, _⟩ := c4_at (HPV.out w8 H38.out)
                have hz8 : W.heap.size < w8.heap.size := Nat.lt_of_lt_of_le hpl H38.out.size
                go_wp2_with fail
                refine (wdel_any p HPI.out _ _ _ _ HA8.out).mono ?_
                rintro e w9 hd
                obtain ⟨g, rfl, ht9, hg⟩ := OneAt.del hd H28.out H38.out HOK.out.1
                obtain rfl : g = false := by
                  cases g with
                  | false => rfl
                  | true =>
                    obtain ⟨x, h1, _⟩ := hg.1 rfl
                    exact absurd rfl h1
                have HT9 : Hid (OneAt w1 w9 (w1.heap.size + 1) (MI L len)) := ht9.same fun q x => by
                  have hfr := MI.fresh (k := len) HOK.out (fun h => by cases HTH.out.2 h)
                  constructor
                  · rintro ⟨h1, _, h2 | h2⟩
                    · exact absurd h2.1 h1
                    · exact h2.2
                  · intro h
                    have h1 : q ≠ p.tp := fun e => hfr x (e ▸ h)
                    exact ⟨h1, h1, Or.inr ⟨h1, h⟩⟩
                clear hd ht9 hg p0 p1 p2 p3
                obtain ⟨X9, ha, h2, h3⟩ := HT9.out
                have HA9 := Lib.hid ha
                have H29 := Lib.hid h2
                have H39 := Lib.hid h3
                clear ha h2 h3
                obtain ⟨p0, p1, p2, p3, _⟩ := c4_at (HPV.out w9 H39.out)
                have hz9 : W.heap.size < w9.heap.size := Nat.lt_of_lt_of_le hpl H39.out.size
                go_wp2_with fail
                refine (cost_any next _ _ _ _ HA9.out).mono ?_
                rintro e w10 ⟨hb10, c, still, rfl, hcc⟩
                obtain ⟨rfl, rfl⟩ := CostOf.uniq (MI.flat L len).hM HCA.out hcc
                have HBF : Hid (Below W.heap.size W w10) := HB1.out.trans ((H39.out.trans (hb10.mono H39.out.size)).mono HB1.out.size)
                clear hb10 hcc
                go_wp2_with fail
                go_ret
                exact ⟨rfl, HBF.out⟩
            | true =>
              by_cases hba : b = a
              · subst hba
                clear hr
                cases th with
                | true =>
                  go_wp2_with fail
                  go_ret
                  exact ⟨rfl, HB1.out.trans (H37.out.mono HB1.out.size)⟩
                | false =>
                  go_wp2_with fail
                  refine (wdel_any p HPI.out _ _ _ _ HA7.out).mono ?_
                  rintro e w8 hd
                  obtain ⟨g, rfl, ht8, hg⟩ := OneAt.del hd H27.out H37.out HOK.out.1
                  obtain rfl : g = true := hg.2 ⟨77, Or.inl ⟨rfl, rfl⟩⟩
                  have HT8 := Lib.hid ht8
                  clear hd ht8 hg p0 p1 p2 p3
                  obtain ⟨X8, ha, h2, h3⟩ := HT8.out
                  have HA8 := Lib.hid ha
                  have H28 := Lib.hid h2
                  have H38 := Lib.hid h3
                  clear ha h2 h3
                  obtain ⟨p0, p1, p2, p3, _⟩ := c4_at (HPV.out w8 H38.out)
                  have hz8 : W.heap.size < w8.heap.size := Nat.lt_of_lt_of_le hpl H38.out.size
                  go_wp2_with fail
                  refine (wdel_any p HPI.out _ _ _ _ HA8.out).mono ?_
                  rintro e w9 hd
                  obtain ⟨g, rfl, ht9, hg⟩ := OneAt.del hd H28.out H38.out HOK.out.1
                  obtain rfl : g = false := by
                    cases g with
                    | false => rfl
                    | true =>
                      obtain ⟨x, h1, _⟩ := hg.1 rfl
                      exact absurd rfl h1
                  have HT9 : Hid (OneAt w1 w9 (w1.heap.size + 1) (MI L len)) := ht9.same fun q x => by
                    have hfr := MI.fresh (k := len) HOK.out (fun h => by cases HTH.out.2 h)
                    constructor
                    · rintro ⟨h1, _, h2 | h2⟩
                      · exact absurd h2.1 h1
                      · exact h2.2
                    · intro h
                      have h1 : q ≠ p.tp := fun e => hfr x (e ▸ h)
                      exact ⟨h1, h1, Or.inr ⟨h1, h⟩⟩
                  clear hd ht9 hg p0 p1 p2 p3
                  obtain ⟨X9, ha, h2, h3⟩ := HT9.out
                  have HA9 := Lib.hid ha
                  have H29 := Lib.hid h2
                  have H39 := Lib.hid h3
                  clear ha h2 h3
                  obtain ⟨p0, p1, p2, p3, _⟩ := c4_at (HPV.out w9 H39.out)
                  have hz9 : W.heap.size < w9.heap.size := Nat.lt_of_lt_of_le hpl H39.out.size
                  go_wp2_with fail
                  refine (cost_any next _ _ _ _ HA9.out).mono ?_
                  rintro e w10 ⟨hb10, c, still, rfl, hcc⟩
                  obtain ⟨rfl, rfl⟩ := CostOf.uniq (MI.flat L len).hM HCA.out hcc
                  have HBF : Hid (Below W.heap.size W w10) := HB1.out.trans ((H39.out.trans (hb10.mono H39.out.size)).mono HB1.out.size)
                  clear hb10 hcc
                  go_wp2_with fail
                  go_ret
                  exact ⟨rfl, HBF.out⟩
              · obtain rfl : b = 77 := (CostOf.more (MI.flat L len) (Px.tp_ok HOK.out) HCA.out HCB.out).resolve_left hba
                have e7 : ((77 : Int) == a) = false := by rw [beq_eq_false_iff_ne]; exact hba
                have e8 : ((77 : Int) != a) = true := by rw [bne, e7]; rfl
                clear hr hba
                cases th with
                | true =>
                  go_wp2_with fail
                  go_ret
                  exact ⟨rfl, HB1.out.trans (H37.out.mono HB1.out.size)⟩
                | false =>
                  go_wp2_with fail
                  refine (wdel_any p HPI.out _ _ _ _ HA7.out).mono ?_
                  rintro e w8 hd
                  obtain ⟨g, rfl, ht8, hg⟩ := OneAt.del hd H27.out H37.out HOK.out.1
                  obtain rfl : g = true := hg.2 ⟨77, Or.inl ⟨rfl, rfl⟩⟩
                  have HT8 := Lib.hid ht8
                  clear hd ht8 hg p0 p1 p2 p3
                  obtain ⟨X8, ha, h2, h3⟩ := HT8.out
                  have HA8 := Lib.hid ha
                  have H28 := Lib.hid h2
                  have H38 := Lib.hid h3
                  clear ha h2 h3
                  obtain ⟨p0, p1, p2, p3, _⟩ := c4_at (HPV.out w8 H38.out)
                  have hz8 : W.heap.size < w8.heap.size := Nat.lt_of_lt_of_le hpl H38.out.size
                  go_wp2_with fail
                  refine (wdel_any p HPI.out _ _ _ _ HA8.out).mono ?_
                  rintro e w9 hd
                  obtain ⟨g, rfl, ht9, hg⟩ := OneAt.del hd H28.out H38.out HOK.out.1
                  obtain rfl : g = false := by
                    cases g with
                    | false => rfl
                    | true =>
                      obtain ⟨x, h1, _⟩ := hg.1 rfl
                      exact absurd rfl h1
                  have HT9 : Hid (OneAt w1 w9 (w1.heap.size + 1) (MI L len)) := ht9.same fun q x => by
                    have hfr := MI.fresh (k := len) HOK.out (fun h => by cases HTH.out.2 h)
                    constructor
                    · rintro ⟨h1, _, h2 | h2⟩
                      · exact absurd h2.1 h1
                      · exact h2.2
                    · intro h
                      have h1 : q ≠ p.tp := fun e => hfr x (e ▸ h)
                      exact ⟨h1, h1, Or.inr ⟨h1, h⟩⟩
                  clear hd ht9 hg p0 p1 p2 p3
                  obtain ⟨X9, ha, h2, h3⟩ := HT9.out
                  have HA9 := Lib.hid ha
                  have H29 := Lib.hid h2
                  have H39 := Lib.hid h3
                  clear ha h2 h3
                  obtain ⟨p0, p1, p2, p3, _⟩ := c4_at (HPV.out w9 H39.out)
                  have hz9 : W.heap.size < w9.heap.size := Nat.lt_of_lt_of_le hpl H39.out.size
                  go_wp2_with fail
                  refine (cost_any next _ _ _ _ HA9.out).mono ?_
                  rintro e w10 ⟨hb10, c, still, rfl, hcc⟩
                  obtain ⟨rfl, rfl⟩ := CostOf.uniq (MI.flat L len).hM HCA.out hcc
                  have HBF : Hid (Below W.heap.size W w10) := HB1.out.trans ((H39.out.trans (hb10.mono H39.out.size)).mono HB1.out.size)
                  clear hb10 hcc
                  go_wp2_with fail
                  go_ret
                  exact ⟨rfl, HBF.out⟩
          · have e16 : ((next.size : Int) == 16) = false := by rw [beq_eq_false_iff_ne]; omega
            have HS := Lib.hid s16
            clear s16
            go_wp2_with fail
            refine calls_name fun V6 hV6 => ?_
            have HV6 : Hid (Below w6.heap.size w6 V6) := by
              rw [hV6]
              clear hV6
              show Below _ _ _
              repeat' (first | with_reducible exact Below.refl _ _ | with_reducible refine Below.setCell ?_ (by first | omega | (simp; omega) | simp) _ | with_reducible refine Below.alloc ?_ (by first | omega | (simp; omega) | simp) _)
            clear hV6
            by_cases s4 : next.size = 4
            · refine (covers_any p ⟨1, 0, next, 32⟩ (whole_ok4 s4) V6).mono ?_
              rintro e w7 ⟨hb7, r, rfl, hr⟩
              have HT7 := Lib.hid (HT6.out.below (HV6.out.trans (hb7.mono HV6.out.size)))
              clear hb7 HV6 HA6 H26 H36 p0 p1 p2 p3 s4
              obtain ⟨X7, ha, h2, h3⟩ := HT7.out
              have HA7 := Lib.hid ha
              have H27 := Lib.hid h2
              have H37 := Lib.hid h3
              clear ha h2 h3
              obtain ⟨p0, p1, p2, p3, _⟩ := c4_at (HPV.out w7 H37.out)
              have hz7 : W.heap.size < w7.heap.size := Nat.lt_of_lt_of_le hpl H37.out.size
              cases r with
              | false =>
                have hnc : ¬ covX p ⟨1, 0, next, 32⟩ := fun h => by cases hr.2 h
                obtain ⟨hba, hso⟩ := CostOf.apart (MI.flat L len) (Px.tp_ok HOK.out) HOK.out.1.2.2.1 (fun _ => hnc) (fun h => absurd h HS.out) HCA.out HCB.out
                subst hba hso
                clear hr hnc
                cases th with
                | true =>
                  go_wp2_with fail
                  go_ret
                  exact ⟨rfl, HB1.out.trans (H37.out.mono HB1.out.size)⟩
                | false =>
                  go_wp2_with fail
                  refine (wdel_any p HPI.out _ _ _ _ HA7.out).mono ?_
                  rintro e w8 hd
                  obtain ⟨g, rfl, ht8, hg⟩ := OneAt.del hd H27.out H37.out HOK.out.1
                  obtain rfl : g = true := hg.2 ⟨77, Or.inl ⟨rfl, rfl⟩⟩
                  have HT8 := Lib.hid ht8
                  clear hd ht8 hg p0 p1 p2 p3
                  obtain ⟨X8, ha, h2, h3⟩ := HT8.out
                  have HA8 := Lib.hid ha
                  have H28 := Lib.hid h2
                  have H38 := Lib.hid h3
                  clear ha h2 h3
                  obtain ⟨p0, p1, p2, p3, _⟩ := c4_at (HPV.out w8 H38.out)
                  have hz8 : W.heap.size < w8.heap.size := Nat.lt_of_lt_of_le hpl H38.out.size
                  go_wp2_with fail
                  refine (wdel_any p HPI.out _ _ _ _ HA8.out).mono ?_
                  rintro e w9 hd
                  obtain ⟨g, rfl, ht9, hg⟩ := OneAt.del hd H28.out H38.out HOK.out.1
                  obtain rfl : g = false := by
                    cases g with
                    | false => rfl
                    | true =>
                      obtain ⟨x, h1, _⟩ := hg.1 rfl
                      exact absurd rfl h1
                  have HT9 : Hid (OneAt w1 w9 (w1.heap.size + 1) (MI L len)) := ht9.same fun q x => by
                    have hfr := MI.fresh (k := len) HOK.out (fun h => by cases HTH.out.2 h)
                    constructor
                    · rintro ⟨h1, _, h2 | h2⟩
                      · exact absurd h2.1 h1
                      · exact h2.2
                    · intro h
                      have h1 : q ≠ p.tp := fun e => hfr x (e ▸ h)
                      exact ⟨h1, h1, Or.inr ⟨h1, h⟩⟩
                  clear hd ht9 hg p0 p1 p2 p3
                  obtain ⟨X9, ha, h2, h3⟩ := HT9.out
                  have HA9 := Lib.hid ha
                  have H29 := Lib.hid h2
                  have H39 := Lib.hid h3
                  clear ha h2 h3
                  obtain ⟨p0, p1, p2, p3, _⟩ := c4_at (HPV.out w9 H39.out)
                  have hz9 : W.heap.size < w9.heap.size := Nat.lt_of_lt_of_le hpl H39.out.size
                  go_wp2_with fail
                  refine (cost_any next _ _ _ _ HA9.out).mono ?_
                  rintro e w10 ⟨hb10, c, still, rfl, hcc⟩
                  obtain ⟨rfl, rfl⟩ := CostOf.uniq (MI.flat L len).hM HCA.out hcc
                  have HBF : Hid (Below W.heap.size W w10) := HB1.out.trans ((H39.out.trans (hb10.mono H39.out.size)).mono HB1.out.size)
                  clear hb10 hcc
                  go_wp2_with fail
                  go_ret
                  exact ⟨rfl, HBF.out⟩
              | true =>
                by_cases hba : b = a
                · subst hba
                  clear hr
                  cases th with
                  | true =>
                    go_wp2_with fail
                    go_ret
                    exact ⟨rfl, HB1.out.trans (H37.out.mono HB1.out.size)⟩
                  | false =>
                    go_wp2_with fail
                    refine (wdel_any p HPI.out _ _ _ _ HA7.out).mono ?_
                    rintro e w8 hd
                    obtain ⟨g, rfl, ht8, hg⟩ := OneAt.del hd H27.out H37.out HOK.out.1
                    obtain rfl : g = true := hg.2 ⟨77, Or.inl ⟨rfl, rfl⟩⟩
                    have HT8 := Lib.hid ht8
                    clear hd ht8 hg p0 p1 p2 p3
                    obtain ⟨X8, ha, h2, h3⟩ := HT8.out
                    have HA8 := Lib.hid ha
                    have H28 := Lib.hid h2
                    have H38 := Lib.hid h3
                    clear ha h2 h3
                    obtain ⟨p0, p1, p2, p3, _⟩ := c4_at (HPV.out w8 H38.out)
                    have hz8 : W.heap.size < w8.heap.size := Nat.lt_of_lt_of_le hpl H38.out.size
                    go_wp2_with fail
                    refine (wdel_any p HPI.out _ _ _ _ HA8.out).mono ?_
                    rintro e w9 hd
                    obtain ⟨g, rfl, ht9, hg⟩ := OneAt.del hd H28.out H38.out HOK.out.1
                    obtain rfl : g = false := by
                      cases g with
                      | false => rfl
                      | true =>
                        obtain ⟨x, h1, _⟩ := hg.1 rfl
                        exact absurd rfl h1
                    have HT9 : Hid (OneAt w1 w9 (w1.heap.size + 1) (MI L len)) := ht9.same fun q x => by
                      have hfr := MI.fresh (k := len) HOK.out (fun h => by cases HTH.out.2 h)
                      constructor
                      · rintro ⟨h1, _, h2 | h2⟩
                        · exact absurd h2.1 h1
                        · exact h2.2
                      · intro h
                        have h1 : q ≠ p.tp := fun e => hfr x (e ▸ h)
                        exact ⟨h1, h1, Or.inr ⟨h1, h⟩⟩
                    clear hd ht9 hg p0 p1 p2 p3
                    obtain ⟨X9, ha, h2, h3⟩ := HT9.out
                    have HA9 := Lib.hid ha
                    have H29 := Lib.hid h2
                    have H39 := Lib.hid h3
                    clear ha h2 h3
                    obtain ⟨p0, p1, p2, p3, _⟩ := c4_at (HPV.out w9 H39.out)
                    have hz9 : W.heap.size < w9.heap.size := Nat.lt_of_lt_of_le hpl H39.out.size
                    go_wp2_with fail
                    refine (cost_any next _ _ _ _ HA9.out).mono ?_
                    rintro e w10 ⟨hb10, c, still, rfl, hcc⟩
                    obtain ⟨rfl, rfl⟩ := CostOf.uniq (MI.flat L len).hM HCA.out hcc
                    have HBF : Hid (Below W.heap.size W w10) := HB1.out.trans ((H39.out.trans (hb10.mono H39.out.size)).mono HB1.out.size)
                    clear hb10 hcc
                    go_wp2_with fail
                    go_ret
                    exact ⟨rfl, HBF.out⟩
                · obtain rfl : b = 77 := (CostOf.more (MI.flat L len) (Px.tp_ok HOK.out) HCA.out HCB.out).resolve_left hba
                  have e7 : ((77 : Int) == a) = false := by rw [beq_eq_false_iff_ne]; exact hba
                  have e8 : ((77 : Int) != a) = true := by rw [bne, e7]; rfl
                  clear hr hba
                  cases th with
                  | true =>
                    go_wp2_with fail
                    go_ret
                    exact ⟨rfl, HB1.out.trans (H37.out.mono HB1.out.size)⟩
                  | false =>
                    go_wp2_with fail
                    refine (wdel_any p HPI.out _ _ _ _ HA7.out).mono ?_
                    rintro e w8 hd
                    obtain ⟨g, rfl, ht8, hg⟩ := OneAt.del hd H27.out H37.out HOK.out.1
                    obtain rfl : g = true := hg.2 ⟨77, Or.inl ⟨rfl, rfl⟩⟩
                    have HT8 := Lib.hid ht8
                    clear hd ht8 hg p0 p1 p2 p3
                    obtain ⟨X8, ha, h2, h3⟩ := HT8.out
                    have HA8 := Lib.hid ha
                    have H28 := Lib.hid h2
                    have H38 := Lib.hid h3
                    clear ha h2 h3
                    obtain ⟨p0, p1, p2, p3, _⟩ := c4_at (HPV.out w8 H38.out)
                    have hz8 : W.heap.size < w8.heap.size := Nat.lt_of_lt_of_le hpl H38.out.size
                    go_wp2_with fail
                    refine (wdel_any p HPI.out _ _ _ _ HA8.out).mono ?_
                    rintro e w9 hd
                    obtain ⟨g, rfl, ht9, hg⟩ := OneAt.del hd H28.out H38.out HOK.out.1
                    obtain rfl : g = false := by
                      cases g with
                      | false => rfl
                      | true =>
                        obtain ⟨x, h1, _⟩ := hg.1 rfl
                        exact absurd rfl h1
                    have HT9 : Hid (OneAt w1 w9 (w1.heap.size + 1) (MI L len)) := ht9.same fun q x => by
                      have hfr := MI.fresh (k := len) HOK.out (fun h => by cases HTH.out.2 h)
                      constructor
                      · rintro ⟨h1, _, h2 | h2⟩
                        · exact absurd h2.1 h1
                        · exact h2.2
                      · intro h
                        have h1 : q ≠ p.tp := fun e => hfr x (e ▸ h)
                        exact ⟨h1, h1, Or.inr ⟨h1, h⟩⟩
                    clear hd ht9 hg p0 p1 p2 p3
                    obtain ⟨X9, ha, h2, h3⟩ := HT9.out
                    have HA9 := Lib.hid ha
                    have H29 := Lib.hid h2
                    have H39 := Lib.hid h3
                    clear ha h2 h3
                    obtain ⟨p0, p1, p2, p3, _⟩ := c4_at (HPV.out w9 H39.out)
                    have hz9 : W.heap.size < w9.heap.size := Nat.lt_of_lt_of_le hpl H39.out.size
                    go_wp2_with fail
                    refine (cost_any next _ _ _ _ HA9.out).mono ?_
                    rintro e w10 ⟨hb10, c, still, rfl, hcc⟩
                    obtain ⟨rfl, rfl⟩ := CostOf.uniq (MI.flat L len).hM HCA.out hcc
                    have HBF : Hid (Below W.heap.size W w10) := HB1.out.trans ((H39.out.trans (hb10.mono H39.out.size)).mono HB1.out.size)
                    clear hb10 hcc
                    go_wp2_with fail
                    go_ret
                    exact ⟨rfl, HBF.out⟩
            · refine (covers_bad p ⟨1, 0, next, 32⟩ (fun h => s4 (by
                have h1 : (next.size : Int) = famSize 1 := h.2.1
                have h2 : famSize 1 = 4 := rfl
                omega)) (by
                have := hs
                omega) V6).mono ?_
              rintro e w7 ⟨rfl, hb7⟩
              have HT7 := Lib.hid (HT6.out.below (HV6.out.trans (hb7.mono HV6.out.size)))
              obtain ⟨hba, hso⟩ := CostOf.apart (MI.flat L len) (Px.tp_ok HOK.out) HOK.out.1.2.2.1 (fun h => absurd h s4) (fun h => absurd h HS.out) HCA.out HCB.out
              subst hba hso
              clear hb7 HV6 HA6 H26 H36 p0 p1 p2 p3 s4
              obtain ⟨X7, ha, h2, h3⟩ := HT7.out
              have HA7 := Lib.hid ha
              have H27 := Lib.hid h2
              have H37 := Lib.hid h3
              clear ha h2 h3
              obtain ⟨p0, p1, p2, p3, _⟩ := c4_at (HPV.out w7 H37.out)
              have hz7 : W.heap.size < w7.heap.size := Nat.lt_of_lt_of_le hpl H37.out.size
              cases th with
              | true =>
                go_wp2_with fail
                go_ret
                exact ⟨rfl, HB1.out.trans (H37.out.mono HB1.out.size)⟩
              | false =>
                go_wp2_with fail
                refine (wdel_any p HPI.out _ _ _ _ HA7.out).mono ?_
                rintro e w8 hd
                obtain ⟨g, rfl, ht8, hg⟩ := OneAt.del hd H27.out H37.out HOK.out.1
                obtain rfl : g = true := hg.2 ⟨77, Or.inl ⟨rfl, rfl⟩⟩
                have HT8 := Lib.hid ht8
                clear hd ht8 hg p0 p1 p2 p3
                obtain ⟨X8, ha, h2, h3⟩ := HT8.out
                have HA8 := Lib.hid ha
                have H28 := Lib.hid h2
                have H38 := Lib.hid h3
                clear ha h2 h3
                obtain ⟨p0, p1, p2, p3, _⟩ := c4_at (HPV.out w8 H38.out)
                have hz8 : W.heap.size < w8.heap.size := Nat.lt_of_lt_of_le hpl H38.out.size
                go_wp2_with fail
                refine (wdel_any p HPI.out _ _ _ _ HA8.out).mono ?_
                rintro e w9 hd
                obtain ⟨g, rfl, ht9, hg⟩ := OneAt.del hd H28.out H38.out HOK.out.1
                obtain rfl : g = false := by
                  cases g with
                  | false => rfl
                  | true =>
                    obtain ⟨x, h1, _⟩ := hg.1 rfl
                    exact absurd rfl h1
                have HT9 : Hid (OneAt w1 w9 (w1.heap.size + 1) (MI L len)) := ht9.same fun q x => by
                  have hfr := MI.fresh (k := len) HOK.out (fun h => by cases HTH.out.2 h)
                  constructor
                  · rintro ⟨h1, _, h2 | h2⟩
                    · exact absurd h2.1 h1
                    · exact h2.2
                  · intro h
                    have h1 : q ≠ p.tp := fun e => hfr x (e ▸ h)
                    exact ⟨h1, h1, Or.inr ⟨h1, h⟩⟩
                clear hd ht9 hg p0 p1 p2 p3
                obtain ⟨X9, ha, h2, h3⟩ := HT9.out
                have HA9 := Lib.hid ha
                have H29 := Lib.hid h2
                have H39 := Lib.hid h3
                clear ha h2 h3
                obtain ⟨p0, p1, p2, p3, _⟩ := c4_at (HPV.out w9 H39.out)
                have hz9 : W.heap.size < w9.heap.size := Nat.lt_of_lt_of_le hpl H39.out.size
                go_wp2_with fail
                refine (cost_any next _ _ _ _ HA9.out).mono ?_
                rintro e w10 ⟨hb10, c, still, rfl, hcc⟩
                obtain ⟨rfl, rfl⟩ := CostOf.uniq (MI.flat L len).hM HCA.out hcc
                have HBF : Hid (Below W.heap.size W w10) := HB1.out.trans ((H39.out.trans (hb10.mono H39.out.size)).mono HB1.out.size)
                clear hb10 hcc
                go_wp2_with fail
                go_ret
                exact ⟨rfl, HBF.out⟩
        · have hq : e = .returned (.int .i64 2) ∧ Below w4.heap.size w4 w5 := by
            rcases hp5 with ⟨_, h1, h2⟩ | ⟨h1, _⟩
            · exact ⟨h1, h2⟩
            · exact absurd h1 hok
          obtain ⟨rfl, hb5⟩ := hq
          have HT5 := Lib.hid (HT4.out.below hb5)
          clear hp5 hok hb5 HA4 H24 H34 p0 p1 p2 p3
          obtain ⟨X5, ha, h2, h3⟩ := HT5.out
          have HA5 := Lib.hid ha
          have H25 := Lib.hid h2
          have H35 := Lib.hid h3
          clear ha h2 h3
          obtain ⟨p0, p1, p2, p3, _⟩ := c4_at (HPV.out w5 H35.out)
          have hz5 : W.heap.size < w5.heap.size := Nat.lt_of_lt_of_le hpl H35.out.size
          go_wp2_with fail
          refine (cost_any next _ _ _ _ HA5.out).mono ?_
          rintro e w6 ⟨hb6, b, so, rfl, hcb⟩
          obtain ⟨rfl, rfl⟩ := CostOf.uniq (MI.flat L len).hM HCA.out hcb
          have HT6 := Lib.hid (HT5.out.below hb6)
          clear hb6 hcb HA5 H25 H35 p0 p1 p2 p3
          obtain ⟨X6, ha, h2, h3⟩ := HT6.out
          have HA6 := Lib.hid ha
          have H26 := Lib.hid h2
          have H36 := Lib.hid h3
          clear ha h2 h3
          obtain ⟨p0, p1, p2, p3, _⟩ := c4_at (HPV.out w6 H36.out)
          have hz6 : W.heap.size < w6.heap.size := Nat.lt_of_lt_of_le hpl H36.out.size
          have HF : Hid (∀ V, Below w6.heap.size w6 V → Below W.heap.size W V) := fun V h => HB1.out.trans ((H36.out.trans (h.mono H36.out.size)).mono HB1.out.size)
          by_cases s16 : next.size = 16
          · have e16 : ((next.size : Int) == 16) = true := by rw [beq_iff_eq]; omega
            clear s16
            cases th with
            | true =>
              go_wp2_with fail
              go_ret
              exact ⟨rfl, HF.out _ (by repeat' (first | with_reducible exact Below.refl _ _ | with_reducible refine Below.setCell ?_ (by first | omega | (simp; omega) | simp) _ | with_reducible refine Below.alloc ?_ (by first | omega | (simp; omega) | simp) _))⟩
            | false =>
              go_wp2_with fail
              go_ret
              exact ⟨rfl, HF.out _ (by repeat' (first | with_reducible exact Below.refl _ _ | with_reducible refine Below.setCell ?_ (by first | omega | (simp; omega) | simp) _ | with_reducible refine Below.alloc ?_ (by first | omega | (simp; omega) | simp) _))⟩
          · have e16 : ((next.size : Int) == 16) = false := by rw [beq_eq_false_iff_ne]; omega
            clear s16
            cases th with
            | true =>
              go_wp2_with fail
              go_ret
              exact ⟨rfl, HF.out _ (by repeat' (first | with_reducible exact Below.refl _ _ | with_reducible refine Below.setCell ?_ (by first | omega | (simp; omega) | simp) _ | with_reducible refine Below.alloc ?_ (by first | omega | (simp; omega) | simp) _))⟩
            | false =>
              go_wp2_with fail
              go_ret
              exact ⟨rfl, HF.out _ (by repeat' (first | with_reducible exact Below.refl _ _ | with_reducible refine Below.setCell ?_ (by first | omega | (simp; omega) | simp) _ | with_reducible refine Below.alloc ?_ (by first | omega | (simp; omega) | simp) _))⟩
end Go.Proofs.Ythnjepehiddogaa
