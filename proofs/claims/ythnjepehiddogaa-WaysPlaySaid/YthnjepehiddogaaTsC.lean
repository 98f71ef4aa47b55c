/-
  Contracts of heraldref24.Del and Add. Conditions: sizes.
-/
import Derived.Test.YthnjepehiddogaaTsB
set_option linter.unusedVariables false
set_option linter.unusedSimpArgs false
namespace Go.Proofs.Ythnjepehiddogaa
open Go.RowKit Go.MapKept

/-- a way's prefix as whatever prefix -/
def wpx (y : Tp × Int) : Px := ⟨y.1.fam, y.1.rd, y.1.addr, (y.1.len : Nat)⟩
theorem px_no2 {x y : Px} (h : x ≠ y) : x.fam = y.fam → x.rd = y.rd → x.addr.toList = y.addr.toList → ¬ x.len = y.len := fun h1 h2 h3 h4 => by
  have h5 : x.addr = y.addr := by
    rw [ByteArray.toList_eq, ByteArray.toList_eq] at h3
    exact ByteArray.ext (Array.ext' h3)
  exact h (by cases x; cases y; simp only at h1 h2 h4 h5; rw [h1, h2, h4, h5])
instance : DecidableEq Px := fun x y => by
  by_cases h : x.fam = y.fam ∧ x.rd = y.rd ∧ x.addr = y.addr ∧ x.len = y.len
  · exact .isTrue (by cases x; cases y; simp only at h; obtain ⟨rfl, rfl, rfl, rfl⟩ := h; rfl)
  · exact .isFalse (fun e => h (by rw [e]; exact ⟨rfl, rfl, rfl, rfl⟩))
/-- all but one -/
def but (p : Px) (L : List (Tp × Int)) : List (Tp × Int) := L.filter fun y => decide (wpx y ≠ p)
theorem but_take {p : Px} {L : List (Tp × Int)} {k : Nat} {y : Tp × Int} (hy : L[k]? = some y) : but p (L.take (k + 1)) = but p (L.take k) ++ (if wpx y = p then [] else [y]) := by
  unfold but
  rw [List.take_add_one, hy, List.filter_append]
  congr 1
  by_cases h : wpx y = p
  · simp [h]
  · simp [h]
theorem but_mem {p : Px} {L : List (Tp × Int)} {y : Tp × Int} : y ∈ but p L ↔ wpx y ≠ p ∧ y ∈ L := by
  unfold but
  rw [List.mem_filter]
  simp [and_comm]
theorem but_le (p : Px) (L : List (Tp × Int)) : (but p L).length ≤ L.length := List.length_filter_le _ _
theorem infoWy : (Try.prog.info? 60).map (fun i => (i.zero, i.size, i.bytes)) = some (some (.agg #[.int .i64 0, .int .u64 0, .string ⟨#[]⟩, .int .i64 0, .int .i64 0]), 5, 48) := by kernel_rfl
def RDelPost (w : World) (p : Px) (L : List (Tp × Int)) (e : Ending) (w' : World) : Prop := Below w.heap.size w w' ∧ ∃ v, e = .returned (.tuple #[v, .bool (decide ((but p L).length < L.length))]) ∧ WL w' w.heap.size v (but p L)
set_option maxRecDepth 100000 in
set_option maxHeartbeats 8000000 in
theorem rdel_any (p : Px) (L : List (Tp × Int)) (base : Nat) (v : Value) (w : World) (h : WL w base v L) (hll : L.length ≤ 1000000) :
    Calls Try.prog 13 #[v, p.v] w (RDelPost w p L) := by
  obtain ⟨A, cap, rfl⟩ := OwnM.form h
  obtain ⟨i0, hi0, hz0, hz1, hz2⟩ := info_parts3 infoWy
  have HL := Lib.hid h
  clear h
  unfold Px.v
  obtain ⟨W, hW⟩ : ∃ W, W = w.alloc (.cells #[.int .i64 p.fam, .int .u64 p.rd, .string p.addr, .int .i64 p.len] 30) := ⟨_, rfl⟩
  have HB : Hid (Below w.heap.size w W) := by
    rw [hW]
    show Below _ _ _
    exact (Below.refl _ _).alloc (Nat.le_refl _) _
  have HP : Hid (CellsAt W w.heap.size #[.int .i64 p.fam, .int .u64 p.rd, .string p.addr, .int .i64 p.len] 30) := by rw [hW]; exact CellsAt.new _ _ _
  have hwW := HP.out.lt
  have HO0 : Hid (WL W (w.heap.size + 1) (.slice none 0 0) (but p (L.take 0))) := OwnM.nil _ _ _ _
  go_enter Try.func13, Try.ntmps13
  go_wp2_with fail
  rw [← hW]
  clear hW
  go_wp2_with fail
  go_loopw [7, 6] (fun i ov wr => ∃ k : Nat, k ≤ L.length ∧ i = .int .i64 k ∧ Hid (WL wr (w.heap.size + 1) ov (but p (L.take k))) ∧ Hid (Below w.heap.size w wr) ∧ Hid (CellsAt wr w.heap.size #[.int .i64 p.fam, .int .u64 p.rd, .string p.addr, .int .i64 p.len] 30)) (fun i _ _ => L.length + 1 - (intOf i).toNat)
  case atStart => exact ⟨0, Nat.zero_le _, rfl, HO0, HB, HP⟩
  case round =>
    obtain ⟨k, hk, rfl, HO, HBr, HPr⟩ := hrel
    obtain ⟨A2, c2, rfl⟩ := OwnM.form HO.out
    by_cases hlt : k < L.length
    · obtain ⟨y, hy⟩ : ∃ y, L[k]? = some y := ⟨L[k], List.getElem?_eq_getElem hlt⟩
      obtain ⟨g, cap2, hv, hgl, hnc, hcm, _, _⟩ := HL.out.at_ hy
      simp only [Value.slice.injEq] at hv
      obtain ⟨rfl, _, rfl⟩ := hv
      unfold maxLen at hcm
      have HY := Lib.hid hy
      have hstep := but_take (p := p) hy
      clear hy
      by_cases hyp : wpx y = p
      · have HYP := Lib.hid hyp
        rw [if_pos hyp, List.append_nil] at hstep
        have HO2 : Hid (WL wr.drew (w.heap.size + 1) (.slice A2 (but p (L.take k)).length c2) (but p (L.take (k + 1)))) := by
          show WL _ _ _ _
          rw [hstep]
          exact HO.out
        have hln : (but p (L.take (k + 1))).length = (but p (L.take k)).length := by rw [hstep]
        clear hyp hstep hln
        go_wp2_with fail
        refine wp_region_held_drew (S := fun w' => ∃ nd, w' = wr.drewN nd) (by kernel_rfl) (⟨1, rfl⟩) (fun hHeld => ?_)
        refine wpAnyH_take (i := 0) (oi := { dst := some 14, op := Op.move (Operand.tmp 0), type := 38, pos := "ref.go:20", after := #[], guard := none }) (v := ?_) rfl (by kernel_rfl) (by kernel_rfl) (by kernel_rfl) (fun _ _ _ h => h) (Or.inl ⟨by rfl, ?_⟩) hHeld ?_
        rotate_left
        · intro w hSw
          clear hSw
          go_simp
          try with_reducible rfl
        try simp only [Act.put, List.setIfInBounds_toArray, List.set_cons_zero, List.set_cons_succ]
        refine wpAnyH_take (i := 1) (oi := { dst := some 15, op := Op.move (Operand.tmp 7), type := 3, pos := "ref.go:20", after := #[], guard := none }) (v := ?_) rfl (by kernel_rfl) (by kernel_rfl) (by kernel_rfl) (fun _ _ _ h => h) (Or.inl ⟨by rfl, ?_⟩) hHeld ?_
        rotate_left
        · intro w hSw
          clear hSw
          go_simp
          try with_reducible rfl
        try simp only [Act.put, List.setIfInBounds_toArray, List.set_cons_zero, List.set_cons_succ]
        refine wpAnyH_take (i := 2) (oi := { dst := some 16, op := Op.indexAddr 38 (Operand.tmp 14) (Operand.tmp 15), type := 0, pos := "ref.go:20", after := #[{ on := 0, ground := Ground.data }, { on := 1, ground := Ground.data }], guard := none }) (v := ?_) rfl (by kernel_rfl) (by kernel_rfl) (by kernel_rfl) (fun _ _ _ h => h) (Or.inl ⟨by rfl, ?_⟩) hHeld ?_
        rotate_left
        · intro w hSw
          clear hSw
          go_simp
          try with_reducible rfl
        try simp only [Act.put, List.setIfInBounds_toArray, List.set_cons_zero, List.set_cons_succ]
        refine wpAnyH_take (i := 3) (oi := { dst := some 17, op := Op.fieldAddr 60 (Operand.tmp 16) 0, type := 0, pos := "ref.go:20", after := #[{ on := 2, ground := Ground.data }], guard := none }) (v := ?_) rfl (by kernel_rfl) (by kernel_rfl) (by kernel_rfl) (fun _ _ _ h => h) (Or.inl ⟨by rfl, ?_⟩) hHeld ?_
        rotate_left
        · intro w hSw
          clear hSw
          go_simp
          try with_reducible rfl
        try simp only [Act.put, List.setIfInBounds_toArray, List.set_cons_zero, List.set_cons_succ]
        refine wpAnyH_take (i := 4) (oi := { dst := some 18, op := Op.load 30 (Operand.tmp 17), type := 30, pos := "ref.go:20", after := #[{ on := 3, ground := Ground.data }], guard := none }) (v := ?_) rfl (by kernel_rfl) (by kernel_rfl) (by kernel_rfl) (fun _ _ _ h => h) (Or.inl ⟨by rfl, ?_⟩) hHeld ?_
        rotate_left
        · intro w hSw
          obtain ⟨nd, rfl⟩ := hSw
          obtain ⟨l0, l1, l2, l3, l4⟩ := HL.out.read HY.out (below_drewN HBr.out nd)
          obtain ⟨p0, p1, p2, p3, _⟩ := c4_at (HPr.out.drew nd)
          go_simp
          try with_reducible rfl
        try simp only [Act.put, List.setIfInBounds_toArray, List.set_cons_zero, List.set_cons_succ]
        refine wpAnyH_take (i := 5) (oi := { dst := some 19, op := Op.load 30 (Operand.tmp 3), type := 30, pos := "ref.go:20", after := #[], guard := none }) (v := ?_) rfl (by kernel_rfl) (by kernel_rfl) (by kernel_rfl) (fun _ _ _ h => h) (Or.inl ⟨by rfl, ?_⟩) hHeld ?_
        rotate_left
        · intro w hSw
          obtain ⟨nd, rfl⟩ := hSw
          obtain ⟨l0, l1, l2, l3, l4⟩ := HL.out.read HY.out (below_drewN HBr.out nd)
          obtain ⟨p0, p1, p2, p3, _⟩ := c4_at (HPr.out.drew nd)
          go_simp
          try with_reducible rfl
        try simp only [Act.put, List.setIfInBounds_toArray, List.set_cons_zero, List.set_cons_succ]
        refine wpAnyH_take (i := 6) (oi := { dst := some 20, op := Op.binOp BinOp.neq 30 (Operand.tmp 18) (Operand.tmp 19) 30, type := 4, pos := "ref.go:20", after := #[{ on := 4, ground := Ground.data }, { on := 5, ground := Ground.data }], guard := none }) (v := .bool false) rfl (by kernel_rfl) (by kernel_rfl) (by kernel_rfl) (fun _ _ _ h => h) (Or.inl ⟨by rfl, ?_⟩) hHeld ?_
        · intro w hSw
          clear hSw
          go_simp
          all_goals first | (have e := HYP.out; subst e; simp [wpx]; done) | (rw [← HYP.out]; simp [wpx]; done) | (rw [← HYP.out]; exact ⟨rfl, rfl, rfl, rfl⟩) | skip
        try simp only [Act.put, List.setIfInBounds_toArray, List.set_cons_zero, List.set_cons_succ]
        refine wpAnyH_done (by kernel_rfl) ?_ _
        clear hHeld
        go_wp2_with fail
        exact ⟨⟨k + 1, by omega, by go_num, HO2, below_drewN HBr.out 1, HPr.out.drew 1⟩, by simp [intOf]; omega⟩
      · have HYP := Lib.hid hyp
        rw [if_neg hyp] at hstep
        have HST := Lib.hid hstep
        clear hyp hstep
        go_wp2_with fail
        refine wp_region_held_drew (S := fun w' => ∃ nd, w' = wr.drewN nd) (by kernel_rfl) (⟨1, rfl⟩) (fun hHeld => ?_)
        refine wpAnyH_take (i := 0) (oi := { dst := some 14, op := Op.move (Operand.tmp 0), type := 38, pos := "ref.go:20", after := #[], guard := none }) (v := ?_) rfl (by kernel_rfl) (by kernel_rfl) (by kernel_rfl) (fun _ _ _ h => h) (Or.inl ⟨by rfl, ?_⟩) hHeld ?_
        rotate_left
        · intro w hSw
          clear hSw
          go_simp
          try with_reducible rfl
        try simp only [Act.put, List.setIfInBounds_toArray, List.set_cons_zero, List.set_cons_succ]
        refine wpAnyH_take (i := 1) (oi := { dst := some 15, op := Op.move (Operand.tmp 7), type := 3, pos := "ref.go:20", after := #[], guard := none }) (v := ?_) rfl (by kernel_rfl) (by kernel_rfl) (by kernel_rfl) (fun _ _ _ h => h) (Or.inl ⟨by rfl, ?_⟩) hHeld ?_
        rotate_left
        · intro w hSw
          clear hSw
          go_simp
          try with_reducible rfl
        try simp only [Act.put, List.setIfInBounds_toArray, List.set_cons_zero, List.set_cons_succ]
        refine wpAnyH_take (i := 2) (oi := { dst := some 16, op := Op.indexAddr 38 (Operand.tmp 14) (Operand.tmp 15), type := 0, pos := "ref.go:20", after := #[{ on := 0, ground := Ground.data }, { on := 1, ground := Ground.data }], guard := none }) (v := ?_) rfl (by kernel_rfl) (by kernel_rfl) (by kernel_rfl) (fun _ _ _ h => h) (Or.inl ⟨by rfl, ?_⟩) hHeld ?_
        rotate_left
        · intro w hSw
          clear hSw
          go_simp
          try with_reducible rfl
        try simp only [Act.put, List.setIfInBounds_toArray, List.set_cons_zero, List.set_cons_succ]
        refine wpAnyH_take (i := 3) (oi := { dst := some 17, op := Op.fieldAddr 60 (Operand.tmp 16) 0, type := 0, pos := "ref.go:20", after := #[{ on := 2, ground := Ground.data }], guard := none }) (v := ?_) rfl (by kernel_rfl) (by kernel_rfl) (by kernel_rfl) (fun _ _ _ h => h) (Or.inl ⟨by rfl, ?_⟩) hHeld ?_
        rotate_left
        · intro w hSw
          clear hSw
          go_simp
          try with_reducible rfl
        try simp only [Act.put, List.setIfInBounds_toArray, List.set_cons_zero, List.set_cons_succ]
        refine wpAnyH_take (i := 4) (oi := { dst := some 18, op := Op.load 30 (Operand.tmp 17), type := 30, pos := "ref.go:20", after := #[{ on := 3, ground := Ground.data }], guard := none }) (v := ?_) rfl (by kernel_rfl) (by kernel_rfl) (by kernel_rfl) (fun _ _ _ h => h) (Or.inl ⟨by rfl, ?_⟩) hHeld ?_
        rotate_left
        · intro w hSw
          obtain ⟨nd, rfl⟩ := hSw
          obtain ⟨l0, l1, l2, l3, l4⟩ := HL.out.read HY.out (below_drewN HBr.out nd)
          obtain ⟨p0, p1, p2, p3, _⟩ := c4_at (HPr.out.drew nd)
          go_simp
          try with_reducible rfl
        try simp only [Act.put, List.setIfInBounds_toArray, List.set_cons_zero, List.set_cons_succ]
        refine wpAnyH_take (i := 5) (oi := { dst := some 19, op := Op.load 30 (Operand.tmp 3), type := 30, pos := "ref.go:20", after := #[], guard := none }) (v := ?_) rfl (by kernel_rfl) (by kernel_rfl) (by kernel_rfl) (fun _ _ _ h => h) (Or.inl ⟨by rfl, ?_⟩) hHeld ?_
        rotate_left
        · intro w hSw
          obtain ⟨nd, rfl⟩ := hSw
          obtain ⟨l0, l1, l2, l3, l4⟩ := HL.out.read HY.out (below_drewN HBr.out nd)
          obtain ⟨p0, p1, p2, p3, _⟩ := c4_at (HPr.out.drew nd)
          go_simp
          try with_reducible rfl
        try simp only [Act.put, List.setIfInBounds_toArray, List.set_cons_zero, List.set_cons_succ]
        refine wpAnyH_take (i := 6) (oi := { dst := some 20, op := Op.binOp BinOp.neq 30 (Operand.tmp 18) (Operand.tmp 19) 30, type := 4, pos := "ref.go:20", after := #[{ on := 4, ground := Ground.data }, { on := 5, ground := Ground.data }], guard := none }) (v := .bool true) rfl (by kernel_rfl) (by kernel_rfl) (by kernel_rfl) (fun _ _ _ h => h) (Or.inl ⟨by rfl, ?_⟩) hHeld ?_
        · intro w hSw
          clear hSw
          go_simp
          exact px_no2 HYP.out
        try simp only [Act.put, List.setIfInBounds_toArray, List.set_cons_zero, List.set_cons_succ]
        refine wpAnyH_done (by kernel_rfl) ?_ _
        clear hHeld
        have HBd : Hid (Below w.heap.size w wr.drew) := below_drewN HBr.out 1
        have HPd : Hid (CellsAt wr.drew w.heap.size #[.int .i64 p.fam, .int .u64 p.rd, .string p.addr, .int .i64 p.len] 30) := HPr.out.drew 1
        have HOd : Hid (WL wr.drew (w.heap.size + 1) (.slice A2 (but p (L.take k)).length c2) (but p (L.take k))) := HO.out
        generalize wr.drew = w3 at HBd HPd HOd ⊢
        have hol : (but p (L.take k)).length ≤ 1000000 := by
          have h1 := but_le p (L.take k)
          have h2 : (L.take k).length ≤ L.length := by rw [List.length_take]; omega
          omega
        have hb3 : w.heap.size + 1 ≤ w3.heap.size := HPd.out.lt
        obtain ⟨l0, l1, l2, l3, l4⟩ := HL.out.read HY.out HBd.out
        go_wp2_with (at_builtin; refine wpList_append_m rfl (.tmp 21) (.tmp 26) 38 38 rfl (w.heap.size + 1) 60 i0 _ 5 48 Try.underlying38 hi0 hz0 hz1 hz2 rfl ?b0 _ (but p (L.take k)).length (flatW (but p (L.take k))) rfl ?b1 _ 1 (flatW [y]) rfl ?b2 ?b3 ?b4 ?b5 ?b6)
        case b0 => omega
        case b1 => exact OwnM.alloc HOd.out _
        case b2 => exact Src.new (w := w3) _ _ Try.underlying38 rfl (fun u hu => flatW_one [y] u hu)
        case b3 => (unfold maxLen; omega)
        case b4 => omega
        case b5 =>
          simp
          omega
        intro v' w5 hown hgr hat
        have HO5 : Hid (WL w5 (w.heap.size + 1) v' (but p (L.take (k + 1)))) := by
          show OwnM _ _ _ _ _ _ _
          rw [HST.out, List.length_append, flatW_append]
          exact hown
        have HB4 : Below w.heap.size w (w3.alloc (.cells (wyC y).toArray 60)) := HBd.out.alloc HBd.out.size _
        have HP4 := HPd.out.alloc (.cells (wyC y).toArray 60)
        have HO4 : OwnM (w3.alloc (.cells (wyC y).toArray 60)) (w.heap.size + 1) 60 5 (.slice A2 (but p (L.take k)).length c2) (but p (L.take k)).length (flatW (but p (L.take k))) := OwnM.alloc HOd.out _
        have HB5 : Hid (Below w.heap.size w w5) := HO4.below_grown hgr HB4 HB4.size (by omega)
        have HP5 : Hid (CellsAt w5 w.heap.size #[.int .i64 p.fam, .int .u64 p.rd, .string p.addr, .int .i64 p.len] 30) := HP4.own hgr (fun e => by
          have := (HO4.lt _ e.symm).1
          omega)
        clear hown hgr hat HB4 HP4 HO4 HOd HBd HPd l0 l1 l2 l3 l4
        obtain ⟨A6, c6, rfl⟩ := OwnM.form HO5.out
        go_wp2_with fail
        exact ⟨⟨k + 1, by omega, by go_num, HO5, HB5, HP5⟩, by simp [intOf]; omega⟩
    · obtain rfl : L.length = k := by omega
      have HO2 : Hid (WL wr w.heap.size (.slice A2 (but p (L.take L.length)).length c2) (but p L)) := by
        have h1 := OwnM.lower HO.out (Nat.le_succ w.heap.size)
        rw [List.take_length] at h1 ⊢
        exact h1
      have hle := but_le p L
      rw [List.take_length] at HO2 ⊢
      clear HO
      by_cases hb : (but p L).length < L.length
      · have e1 : decide ((but p L).length < L.length) = true := decide_eq_true hb
        have HE := Lib.hid e1
        go_wp2_with fail
        go_ret2
        exact ⟨HBr.out, _, by rw [HE.out]; rfl, HO2.out⟩
      · have e1 : decide ((but p L).length < L.length) = false := decide_eq_false hb
        have HE := Lib.hid e1
        go_wp2_with fail
        go_ret2
        exact ⟨HBr.out, _, by rw [HE.out]; rfl, HO2.out⟩
def RAddPost (w : World) (p : Px) (cost : Int) (v : Value) (L : List (Tp × Int)) (e : Ending) (w' : World) : Prop := Below w.heap.size w w' ∧
  ((¬ wOk p.fam p.rd p.addr p.len cost ∧ e = .returned (.tuple #[v, .int .i64 2])) ∨
   (wOk p.fam p.rd p.addr p.len cost ∧ ∃ v', e = .returned (.tuple #[v', .int .i64 0]) ∧ WL w' w.heap.size v' (but p L ++ [(p.tp, cost)])))
set_option maxRecDepth 100000 in
set_option maxHeartbeats 4000000 in
theorem radd_bad (p : Px) (hpa : p.addr.size ≤ 9223372036854775807) (cost : Int) (L : List (Tp × Int)) (base : Nat) (v : Value) (w : World) (h : WL w base v L) (hll : L.length ≤ 999999) (hno : ¬ PrefOk p.fam p.rd p.addr p.len) :
    Calls Try.prog 12 #[v, p.v, .int .i64 cost] w (fun e w' => Below w.heap.size w w' ∧ e = .returned (.tuple #[v, .int .i64 2])) := by
  obtain ⟨A, cap, rfl⟩ := OwnM.form h
  have HMA := Lib.hid (fun w => rmay_any p.fam p.rd p.addr p.len w hpa)
  have HL := Lib.hid h
  rw [show decide (PrefOk p.fam p.rd p.addr p.len) = false from decide_eq_false hno] at HMA
  clear hno
  clear h
  unfold Px.v
  obtain ⟨W, hW⟩ : ∃ W, W = w.alloc (.cells #[.int .i64 p.fam, .int .u64 p.rd, .string p.addr, .int .i64 p.len] 30) := ⟨_, rfl⟩
  have HB : Hid (Below w.heap.size w W) := by
    rw [hW]
    show Below _ _ _
    exact (Below.refl _ _).alloc (Nat.le_refl _) _
  have HP : Hid (CellsAt W w.heap.size #[.int .i64 p.fam, .int .u64 p.rd, .string p.addr, .int .i64 p.len] 30) := by rw [hW]; exact CellsAt.new _ _ _
  obtain ⟨p0, p1, p2, p3, _⟩ := c4_at HP.out
  go_enter Try.func12, Try.ntmps12
  go_wp2_with fail
  rw [← hW]
  clear hW
  go_wp2_with fail
  refine (HMA.out _).mono ?_
  rintro e w1 ⟨rfl, hb1⟩
  have HB1 : Hid (Below w.heap.size w w1) := HB.out.trans (hb1.mono HB.out.size)
  have HP1 : Hid (CellsAt w1 w.heap.size #[.int .i64 p.fam, .int .u64 p.rd, .string p.addr, .int .i64 p.len] 30) := HP.out.below hb1 HP.out.lt
  clear hb1 HB HP p0 p1 p2 p3
  obtain ⟨p0, p1, p2, p3, _⟩ := c4_at HP1.out
  go_wp2_with fail
  go_ret2
  exact ⟨HB1.out, rfl⟩
set_option maxRecDepth 100000 in
set_option maxHeartbeats 4000000 in
theorem radd_fam (p : Px) (hpa : p.addr.size ≤ 9223372036854775807) (cost : Int) (L : List (Tp × Int)) (base : Nat) (v : Value) (w : World) (h : WL w base v L) (hll : L.length ≤ 999999) (hok : PrefOk p.fam p.rd p.addr p.len) (h1 : 2 < p.fam) :
    Calls Try.prog 12 #[v, p.v, .int .i64 cost] w (fun e w' => Below w.heap.size w w' ∧ e = .returned (.tuple #[v, .int .i64 2])) := by
  obtain ⟨A, cap, rfl⟩ := OwnM.form h
  have HMA := Lib.hid (fun w => rmay_any p.fam p.rd p.addr p.len w hpa)
  have HL := Lib.hid h
  rw [show decide (PrefOk p.fam p.rd p.addr p.len) = true from decide_eq_true hok] at HMA
  clear hok
  have e1 : decide (2 < p.fam) = true := decide_eq_true h1
  clear h1
  clear h
  unfold Px.v
  obtain ⟨W, hW⟩ : ∃ W, W = w.alloc (.cells #[.int .i64 p.fam, .int .u64 p.rd, .string p.addr, .int .i64 p.len] 30) := ⟨_, rfl⟩
  have HB : Hid (Below w.heap.size w W) := by
    rw [hW]
    show Below _ _ _
    exact (Below.refl _ _).alloc (Nat.le_refl _) _
  have HP : Hid (CellsAt W w.heap.size #[.int .i64 p.fam, .int .u64 p.rd, .string p.addr, .int .i64 p.len] 30) := by rw [hW]; exact CellsAt.new _ _ _
  obtain ⟨p0, p1, p2, p3, _⟩ := c4_at HP.out
  go_enter Try.func12, Try.ntmps12
  go_wp2_with fail
  rw [← hW]
  clear hW
  go_wp2_with fail
  refine (HMA.out _).mono ?_
  rintro e w1 ⟨rfl, hb1⟩
  have HB1 : Hid (Below w.heap.size w w1) := HB.out.trans (hb1.mono HB.out.size)
  have HP1 : Hid (CellsAt w1 w.heap.size #[.int .i64 p.fam, .int .u64 p.rd, .string p.addr, .int .i64 p.len] 30) := HP.out.below hb1 HP.out.lt
  clear hb1 HB HP p0 p1 p2 p3
  obtain ⟨p0, p1, p2, p3, _⟩ := c4_at HP1.out
  go_wp2_with fail
  go_ret2
  exact ⟨HB1.out, rfl⟩
set_option maxRecDepth 100000 in
set_option maxHeartbeats 4000000 in
theorem radd_neg (p : Px) (hpa : p.addr.size ≤ 9223372036854775807) (cost : Int) (L : List (Tp × Int)) (base : Nat) (v : Value) (w : World) (h : WL w base v L) (hll : L.length ≤ 999999) (hok : PrefOk p.fam p.rd p.addr p.len) (h1 : ¬ 2 < p.fam) (h2 : cost < 0) :
    Calls Try.prog 12 #[v, p.v, .int .i64 cost] w (fun e w' => Below w.heap.size w w' ∧ e = .returned (.tuple #[v, .int .i64 2])) := by
  obtain ⟨A, cap, rfl⟩ := OwnM.form h
  have HMA := Lib.hid (fun w => rmay_any p.fam p.rd p.addr p.len w hpa)
  have HL := Lib.hid h
  rw [show decide (PrefOk p.fam p.rd p.addr p.len) = true from decide_eq_true hok] at HMA
  clear hok
  have e1 : decide (2 < p.fam) = false := decide_eq_false h1
  have e2 : decide (cost < 0) = true := decide_eq_true h2
  clear h1 h2
  clear h
  unfold Px.v
  obtain ⟨W, hW⟩ : ∃ W, W = w.alloc (.cells #[.int .i64 p.fam, .int .u64 p.rd, .string p.addr, .int .i64 p.len] 30) := ⟨_, rfl⟩
  have HB : Hid (Below w.heap.size w W) := by
    rw [hW]
    show Below _ _ _
    exact (Below.refl _ _).alloc (Nat.le_refl _) _
  have HP : Hid (CellsAt W w.heap.size #[.int .i64 p.fam, .int .u64 p.rd, .string p.addr, .int .i64 p.len] 30) := by rw [hW]; exact CellsAt.new _ _ _
  obtain ⟨p0, p1, p2, p3, _⟩ := c4_at HP.out
  go_enter Try.func12, Try.ntmps12
  go_wp2_with fail
  rw [← hW]
  clear hW
  go_wp2_with fail
  refine (HMA.out _).mono ?_
  rintro e w1 ⟨rfl, hb1⟩
  have HB1 : Hid (Below w.heap.size w w1) := HB.out.trans (hb1.mono HB.out.size)
  have HP1 : Hid (CellsAt w1 w.heap.size #[.int .i64 p.fam, .int .u64 p.rd, .string p.addr, .int .i64 p.len] 30) := HP.out.below hb1 HP.out.lt
  clear hb1 HB HP p0 p1 p2 p3
  obtain ⟨p0, p1, p2, p3, _⟩ := c4_at HP1.out
  go_wp2_with fail
  go_ret2
  exact ⟨HB1.out, rfl⟩
set_option maxRecDepth 100000 in
set_option maxHeartbeats 4000000 in
theorem radd_dear (p : Px) (hpa : p.addr.size ≤ 9223372036854775807) (cost : Int) (L : List (Tp × Int)) (base : Nat) (v : Value) (w : World) (h : WL w base v L) (hll : L.length ≤ 999999) (hok : PrefOk p.fam p.rd p.addr p.len) (h1 : ¬ 2 < p.fam) (h2 : ¬ cost < 0) (h3 : 1073741824 < cost) :
    Calls Try.prog 12 #[v, p.v, .int .i64 cost] w (fun e w' => Below w.heap.size w w' ∧ e = .returned (.tuple #[v, .int .i64 2])) := by
  obtain ⟨A, cap, rfl⟩ := OwnM.form h
  have HMA := Lib.hid (fun w => rmay_any p.fam p.rd p.addr p.len w hpa)
  have HL := Lib.hid h
  rw [show decide (PrefOk p.fam p.rd p.addr p.len) = true from decide_eq_true hok] at HMA
  clear hok
  have e1 : decide (2 < p.fam) = false := decide_eq_false h1
  have e2 : decide (cost < 0) = false := decide_eq_false h2
  have e3 : decide (1073741824 < cost) = true := decide_eq_true h3
  clear h1 h2 h3
  clear h
  unfold Px.v
  obtain ⟨W, hW⟩ : ∃ W, W = w.alloc (.cells #[.int .i64 p.fam, .int .u64 p.rd, .string p.addr, .int .i64 p.len] 30) := ⟨_, rfl⟩
  have HB : Hid (Below w.heap.size w W) := by
    rw [hW]
    show Below _ _ _
    exact (Below.refl _ _).alloc (Nat.le_refl _) _
  have HP : Hid (CellsAt W w.heap.size #[.int .i64 p.fam, .int .u64 p.rd, .string p.addr, .int .i64 p.len] 30) := by rw [hW]; exact CellsAt.new _ _ _
  obtain ⟨p0, p1, p2, p3, _⟩ := c4_at HP.out
  go_enter Try.func12, Try.ntmps12
  go_wp2_with fail
  rw [← hW]
  clear hW
  go_wp2_with fail
  refine (HMA.out _).mono ?_
  rintro e w1 ⟨rfl, hb1⟩
  have HB1 : Hid (Below w.heap.size w w1) := HB.out.trans (hb1.mono HB.out.size)
  have HP1 : Hid (CellsAt w1 w.heap.size #[.int .i64 p.fam, .int .u64 p.rd, .string p.addr, .int .i64 p.len] 30) := HP.out.below hb1 HP.out.lt
  clear hb1 HB HP p0 p1 p2 p3
  obtain ⟨p0, p1, p2, p3, _⟩ := c4_at HP1.out
  go_wp2_with fail
  go_ret2
  exact ⟨HB1.out, rfl⟩
set_option maxRecDepth 100000 in
set_option maxHeartbeats 4000000 in
theorem radd_good (p : Px) (hpa : p.addr.size ≤ 9223372036854775807) (cost : Int) (L : List (Tp × Int)) (base : Nat) (v : Value) (w : World) (h : WL w base v L) (hll : L.length ≤ 999999) (hok : PrefOk p.fam p.rd p.addr p.len) (h1 : ¬ 2 < p.fam) (h2 : ¬ cost < 0) (h3 : ¬ 1073741824 < cost) :
    Calls Try.prog 12 #[v, p.v, .int .i64 cost] w (fun e w' => Below w.heap.size w w' ∧ ∃ v', e = .returned (.tuple #[v', .int .i64 0]) ∧ WL w' w.heap.size v' (but p L ++ [(p.tp, cost)])) := by
  obtain ⟨A, cap, rfl⟩ := OwnM.form h
  have HMA := Lib.hid (fun w => rmay_any p.fam p.rd p.addr p.len w hpa)
  have HL := Lib.hid h
  have hlen := hok.2.2.1
  rw [show decide (PrefOk p.fam p.rd p.addr p.len) = true from decide_eq_true hok] at HMA
  clear hok
  have e1 : decide (2 < p.fam) = false := decide_eq_false h1
  have e2 : decide (cost < 0) = false := decide_eq_false h2
  have e3 : decide (1073741824 < cost) = false := decide_eq_false h3
  clear h1 h2 h3
  obtain ⟨i0, hi0, hz0, hz1, hz2⟩ := info_parts3 infoWy
  have HDL := Lib.hid (fun w1 h => rdel_any p L base (.slice A L.length cap) w1 h (by omega))
  unfold Px.v at HDL
  have hyc : wyC (p.tp, cost) = [.int .i64 p.fam, .int .u64 p.rd, .string p.addr, .int .i64 p.len, .int .i64 cost] := by
    show [Value.int .i64 p.fam, .int .u64 p.rd, .string p.addr, .int .i64 ((p.len.toNat : Nat) : Int), .int .i64 cost] = _
    rw [show ((p.len.toNat : Nat) : Int) = p.len by omega]
  have HYC := Lib.hid hyc
  clear hyc hlen
  clear h
  unfold Px.v
  obtain ⟨W, hW⟩ : ∃ W, W = w.alloc (.cells #[.int .i64 p.fam, .int .u64 p.rd, .string p.addr, .int .i64 p.len] 30) := ⟨_, rfl⟩
  have HB : Hid (Below w.heap.size w W) := by
    rw [hW]
    show Below _ _ _
    exact (Below.refl _ _).alloc (Nat.le_refl _) _
  have HP : Hid (CellsAt W w.heap.size #[.int .i64 p.fam, .int .u64 p.rd, .string p.addr, .int .i64 p.len] 30) := by rw [hW]; exact CellsAt.new _ _ _
  obtain ⟨p0, p1, p2, p3, _⟩ := c4_at HP.out
  go_enter Try.func12, Try.ntmps12
  go_wp2_with fail
  rw [← hW]
  clear hW
  go_wp2_with fail
  refine (HMA.out _).mono ?_
  rintro e w1 ⟨rfl, hb1⟩
  have HB1 : Hid (Below w.heap.size w w1) := HB.out.trans (hb1.mono HB.out.size)
  have HP1 : Hid (CellsAt w1 w.heap.size #[.int .i64 p.fam, .int .u64 p.rd, .string p.addr, .int .i64 p.len] 30) := HP.out.below hb1 HP.out.lt
  clear hb1 HB HP p0 p1 p2 p3
  obtain ⟨p0, p1, p2, p3, _⟩ := c4_at HP1.out
  go_wp2_with fail
  refine (HDL.out _ (HL.out.below HB1.out (Nat.le_refl _))).mono ?_
  rintro e w2 ⟨hb2, v2, rfl, ho2⟩
  obtain ⟨A2, c2, rfl⟩ := OwnM.form ho2
  have HB2 : Hid (Below w.heap.size w w2) := HB1.out.trans (hb2.mono HB1.out.size)
  have HP2 : Hid (CellsAt w2 w.heap.size #[.int .i64 p.fam, .int .u64 p.rd, .string p.addr, .int .i64 p.len] 30) := HP1.out.below hb2 HP1.out.lt
  have HO2 : Hid (WL w2 w.heap.size (.slice A2 (but p L).length c2) (but p L)) := OwnM.lower ho2 HB1.out.size
  have hbs : w.heap.size ≤ w2.heap.size := HB2.out.size
  have hol : (but p L).length ≤ 999999 := by
    have := but_le p L
    omega
  clear hb2 ho2 HB1 HP1 p0 p1 p2 p3
  obtain ⟨p0, p1, p2, p3, _⟩ := c4_at HP2.out
  go_wp2_with (at_builtin; refine wpList_append_m rfl (.tmp 33) (.tmp 37) 38 38 rfl w.heap.size 60 i0 _ 5 48 Try.underlying38 hi0 hz0 hz1 hz2 rfl ?b0 _ (but p L).length (flatW (but p L)) rfl ?b1 _ 1 [.int .i64 p.fam, .int .u64 p.rd, .string p.addr, .int .i64 p.len, .int .i64 cost] rfl ?b2 ?b3 ?b4 ?b5 ?b6)
  case b0 => omega
  case b1 => exact OwnM.alloc HO2.out _
  case b2 => exact Src.new (w := w2) _ _ Try.underlying38 rfl (fun u hu => by
    rw [← HYC.out] at hu
    exact flatW_one [(p.tp, cost)] u (by simpa [flatW] using hu))
  case b3 => (unfold maxLen; omega)
  case b4 => omega
  case b5 =>
    simp
    omega
  intro v' w5 hown hgr hat
  have HO5 : Hid (WL w5 w.heap.size v' (but p L ++ [(p.tp, cost)])) := by
    show OwnM _ _ _ _ _ _ _
    rw [List.length_append, flatW_append, show flatW [(p.tp, cost)] = wyC (p.tp, cost) by simp [flatW], HYC.out]
    exact hown
  have HB4 : Below w.heap.size w (w2.alloc (.cells #[.int .i64 p.fam, .int .u64 p.rd, .string p.addr, .int .i64 p.len, .int .i64 cost] 60)) := HB2.out.alloc HB2.out.size _
  have HO4 : OwnM (w2.alloc (.cells #[.int .i64 p.fam, .int .u64 p.rd, .string p.addr, .int .i64 p.len, .int .i64 cost] 60)) w.heap.size 60 5 (.slice A2 (but p L).length c2) (but p L).length (flatW (but p L)) := OwnM.alloc HO2.out _
  have HB5 : Hid (Below w.heap.size w w5) := HO4.below_grown hgr HB4 HB4.size (Nat.le_refl _)
  clear hown hgr hat HB4 HO4
  go_wp2_with fail
  go_ret2
  exact ⟨HB5.out, _, rfl, HO5.out⟩
theorem radd_any (p : Px) (hpa : p.addr.size ≤ 9223372036854775807) (cost : Int) (L : List (Tp × Int)) (base : Nat) (v : Value) (w : World) (h : WL w base v L) (hll : L.length ≤ 999999) :
    Calls Try.prog 12 #[v, p.v, .int .i64 cost] w (RAddPost w p cost v L) := by
  have no : ¬ wOk p.fam p.rd p.addr p.len cost → ∀ e w', (Below w.heap.size w w' ∧ e = .returned (.tuple #[v, .int .i64 2])) → RAddPost w p cost v L e w' := fun hn e w' k => ⟨k.1, Or.inl ⟨hn, k.2⟩⟩
  by_cases hok : PrefOk p.fam p.rd p.addr p.len
  · by_cases h1 : 2 < p.fam
    · exact (radd_fam p hpa cost L base v w h hll hok h1).mono (no fun k => by have := k.2.1; omega)
    · by_cases h2 : cost < 0
      · exact (radd_neg p hpa cost L base v w h hll hok h1 h2).mono (no fun k => by have := k.2.2.1; omega)
      · by_cases h3 : 1073741824 < cost
        · exact (radd_dear p hpa cost L base v w h hll hok h1 h2 h3).mono (no fun k => by have := k.2.2.2; omega)
        · have hf := famSize_five hok.1
          have hw : wOk p.fam p.rd p.addr p.len cost := ⟨hok, by omega, by omega, by omega⟩
          exact (radd_good p hpa cost L base v w h hll hok h1 h2 h3).mono fun e w' k => ⟨k.1, Or.inr ⟨hw, k.2⟩⟩
  · exact (radd_bad p hpa cost L base v w h hll hok).mono (no fun k => hok k.1)
end Go.Proofs.Ythnjepehiddogaa
