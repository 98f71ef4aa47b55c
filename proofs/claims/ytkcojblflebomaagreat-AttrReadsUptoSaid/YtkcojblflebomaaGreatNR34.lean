/-
  Several texts in one.
-/
import Derived.Test.YtkcojblflebomaaGreatNR24
import Derived.Test.YtkcojblflebomaaGreatNR17
import Derived.Test.YtkcojblflebomaaGreatNR33
set_option linter.unusedVariables false
set_option linter.unusedSimpArgs false
namespace Go.Proofs.YtkcojblflebomaaGreat
open Go.RowKit Go.MapKept Go.Shelf
open Go.Lib hiding intOf

theorem wpList_store_verdict {ops : Array Oper} {rest : List Oper} {op : Oper} {a : Act} {w : World} {Q : Exit → Act → World → Prop} (hgd : op.guard = none) (x y : Operand) (ho : op.op = .store 42 x y) (b : Nat) (hx : a.eval x = .pointer (some ⟨b, 0, none⟩)) (p : Vd) (hy : a.eval y = .agg #[.int .i64 p.act, .int .u8 p.code, .int .u8 p.sub]) (q : Vd) (hc : CellsAt w b #[.int .i64 q.act, .int .u8 q.code, .int .u8 q.sub] 42)
    (h : wpList Tryz.prog ops Q rest (a.put op.dst undef) (w.setRow b #[.int .i64 p.act, .int .u8 p.code, .int .u8 p.sub])) : wpList Tryz.prog ops Q (op :: rest) a w :=
  wpList_store_row hgd 42 x y ho b p.ar hx hy 42 q.ar hc (by rw [verdict_size]; rfl) rfl (Array.all_eq_true_iff_forall_mem.2 (fun u hu => by
    simp only [Vd.ar, List.mem_toArray, List.mem_cons, List.not_mem_nil, or_false] at hu
    rcases hu with rfl | rfl | rfl <;> rfl)) h
theorem OwnL.raws {w : World} {base : Nat} {v : Value} {L : List Rw} (h : OwnL w base 32 3 Rw.cs v L) (hf : ∀ r ∈ L, r.v.size ≤ 9223372036854775807) : ∃ A c, v = .slice A L.length c ∧ RwsOk w A c L := by
  obtain ⟨A, c, hv, hr, hl, hc⟩ := OwnL.rd Rw.cs_len h
  exact ⟨A, c, hv, hr, hl, hc, hf⟩
theorem one_fits : ∀ r ∈ oneRaws, r.v.size ≤ 140737488351232 := by
  intro r hr
  simp only [oneRaws, List.mem_cons, List.not_mem_nil, or_false] at hr
  rcases hr with rfl | rfl | rfl <;> decide
theorem one_own {w : World} {base : Nat} {v : Value} (h : OwnL w base 32 3 Rw.cs v oneRaws) : ∃ A c, v = .slice A 3 c ∧ RwsOk w A c oneRaws := h.raws (fun r hr => Nat.le_trans (one_fits r hr) (by decide))
theorem work_write (a : Atr) (w : World) (h : AtrOk w a) (hc : a.c = oneC) : Calls Tryz.prog 25 #[a.v, .bool true] w fun e w' => (∃ A c, e = .returned (.tuple #[.slice A 3 c, .int .i64 0]) ∧ RwsOk w' A c oneRaws) ∧ Below w.heap.size w w' := by
  refine (write_ok a true w h (by rw [hc]; exact one_ok) (enc_none (by show a.c.comms = []; rw [hc]; rfl) (by show a.c.exts = []; rw [hc]; rfl) (by show a.c.larges = []; rw [hc]; rfl))).mono ?_
  rintro e w' ⟨⟨v, rfl, ho⟩, hb⟩
  rw [hc, one_write] at ho
  obtain ⟨A, c, rfl, hr⟩ := one_own ho
  exact ⟨⟨A, c, rfl, hr⟩, hb⟩
theorem work_lay (A : Option Addr) (c : Nat) (w : World) (h : RwsOk w A c oneRaws) : Calls Tryz.prog 13 #[.slice A 3 c] w fun e w' => e = .returned (.tuple #[.string (ByteArray.mk #[64, 1, 1, 1, 64, 2, 6, 2, 1, 0, 0, 0, 1, 64, 3, 4, 10, 0, 0, 1]), .int .i64 0]) ∧ Below w.heap.size w w' := by
  have h2 := lay_any A c oneRaws w h
  rw [one_lay] at h2
  exact h2
theorem work_split (w : World) : Calls Tryz.prog 17 #[.string (ByteArray.mk #[64, 1, 1, 1, 64, 2, 6, 2, 1, 0, 0, 0, 1, 64, 3, 4, 10, 0, 0, 1])] w fun e w' => (∃ A c, e = .returned (.tuple #[.slice A 3 c, .bool true]) ∧ RwsOk w' A c oneRaws) ∧ Below w.heap.size w w' := by
  have h2 := split_any laidB w (by decide)
  rw [one_split] at h2
  refine h2.mono ?_
  rintro e w' ⟨⟨v, rfl, ho⟩, hb⟩
  obtain ⟨A, c, rfl, hr⟩ := one_own ho
  exact ⟨⟨A, c, rfl, hr⟩, hb⟩
theorem work_T : ∀ x ∈ oneRaws, ∀ b wr i f, rowF x.t.toNat = some (b, wr, i, f) → TakesT workT x.t.toNat f := by
  intro x hx b wr i f h
  simp only [oneRaws, List.mem_cons, List.not_mem_nil, or_false] at hx
  rcases hx with rfl | rfl | rfl
  · obtain ⟨rfl, rfl, rfl, rfl⟩ : (64 : Int) = b ∧ (2 : Int) = wr ∧ false = i ∧ 73 = f := by simpa [rowF] using h
    exact ⟨takes1, fun v four c => by show (take1 v c).1.clus = c.clus; unfold take1; split <;> rfl⟩
  · obtain ⟨rfl, rfl, rfl, rfl⟩ : (64 : Int) = b ∧ (2 : Int) = wr ∧ false = i ∧ 74 = f := by simpa [rowF] using h
    exact ⟨takes2, fun v four c => by show (take2 v four c).1.clus = c.clus; unfold take2; split <;> rfl⟩
  · obtain ⟨rfl, rfl, rfl, rfl⟩ : (64 : Int) = b ∧ (2 : Int) = wr ∧ false = i ∧ 76 = f := by simpa [rowF] using h
    exact ⟨takes3, fun v four c => by rfl⟩
theorem work_read (A : Option Addr) (c : Nat) (w : World) (h : RwsOk w A c oneRaws) : Calls Tryz.prog 19 #[.slice A 3 c, .bool true, .bool true] w fun e w' => (∃ a : Atr, e = .returned (.tuple #[.agg a.ar, .agg #[.int .i64 0, .int .u8 0, .int .u8 0]]) ∧ AtrOk w' a ∧ a.c = oneC) ∧ Below w.heap.size w w' := by
  refine (read_any workT A c oneRaws true true w h one_fits work_T).mono ?_
  rintro e w' ⟨hp, hb⟩
  rw [show readF workT true true [] noC ⟨0, 0, 0⟩ oneRaws = (oneC, ⟨0, 0, 0⟩) from one_read] at hp
  obtain ⟨a, rfl, ho, hc⟩ := hp
  exact ⟨⟨a, rfl, ho.ok, hc⟩, hb⟩
theorem work_same (a b : Atr) (w : World) (h1 : AtrOk w a) (h2 : AtrOk w b) (e1 : a.c = oneC) (e2 : b.c = oneC) : Calls Tryz.prog 23 #[a.v, b.v] w fun e w' => e = .returned (.bool true) ∧ Below w.heap.size w w' := by
  have h := same_any a b w h1 h2
  rw [decide_eq_true (show a.c = b.c by rw [e1, e2])] at h
  exact h
set_option maxRecDepth 100000 in
set_option maxHeartbeats 4000000 in
theorem works_any (w : World) : Calls Tryz.prog 16 #[] w fun e w' => e = .returned (.bool true) ∧ Below w.heap.size w w' := by
  have HONE := Lib.hid one_any
  have HWR := Lib.hid work_write
  have HLA := Lib.hid work_lay
  have HSP := Lib.hid work_split
  have HRE := Lib.hid work_read
  have HSA := Lib.hid work_same
  go_enter Tryz.func16, Tryz.ntmps16
  go_wp2_with fail
  refine (HONE.out _).mono ?_
  rintro e w1 ⟨⟨a0, rfl, ha0, hc0⟩, hb1⟩
  have HA0 := Lib.hid ha0
  have HC0 := Lib.hid hc0
  have HB1 := Lib.hid hb1
  clear ha0 hc0 hb1
  go_wp2_with fail
  refine (HWR.out a0 _ HA0.out HC0.out).mono ?_
  rintro e w2 ⟨⟨A, c, rfl, hr⟩, hb2⟩
  have HR := Lib.hid hr
  have HB2 := Lib.hid (HB1.out.trans (hb2.mono HB1.out.size))
  clear hr hb2 HB1 HA0 HC0
  go_wp2_with fail
  refine (HLA.out A c _ HR.out).mono ?_
  rintro e w3 ⟨rfl, hb3⟩
  have HB3 := Lib.hid (HB2.out.trans (hb3.mono HB2.out.size))
  clear hb3 HB2 HR
  go_wp2_with fail
  refine (HSP.out _).mono ?_
  rintro e w4 ⟨⟨B, d, rfl, hr⟩, hb4⟩
  have HR := Lib.hid hr
  have HB4 := Lib.hid (HB3.out.trans (hb4.mono HB3.out.size))
  clear hr hb4 HB3
  go_wp2_with fail
  refine (HRE.out B d _ HR.out).mono ?_
  rintro e w5 ⟨⟨a1, rfl, ha1, hc1⟩, hb5⟩
  have HA1 := Lib.hid ha1
  have HC1 := Lib.hid hc1
  have HB5 := Lib.hid (HB4.out.trans (hb5.mono HB4.out.size))
  clear ha1 hc1 hb5 HB4 HR
  have e5 : ∀ cs : Array Value, (w5.alloc (.cells cs 40)).heap.size = w5.heap.size + 1 := fun cs => by simp
  have HZ : Hid (∀ cs : Array Value, CellsAt ((w5.alloc (.cells cs 40)).alloc (.cells #[.int .i64 0, .int .u8 0, .int .u8 0] 42)) w5.heap.size cs 40) := fun cs => (CellsAt.new _ _ _).alloc _
  have HY : Hid (∀ cs : Array Value, CellsAt (((w5.alloc (.cells cs 40)).alloc (.cells #[.int .i64 0, .int .u8 0, .int .u8 0] 42)).setRow w5.heap.size a1.ar) (w5.heap.size + 1) #[.int .i64 0, .int .u8 0, .int .u8 0] 42) := fun cs => by
    have h := CellsAt.new (w5.alloc (.cells cs 40)) #[.int .i64 0, .int .u8 0, .int .u8 0] 42
    rw [e5] at h
    exact h.row (grown_setRow _ _ _) (by omega)
  have HV1 : Hid (∀ cs : Array Value, CellsAt ((((w5.alloc (.cells cs 40)).alloc (.cells #[.int .i64 0, .int .u8 0, .int .u8 0] 42)).setRow w5.heap.size a1.ar).setRow (w5.heap.size + 1) #[.int .i64 0, .int .u8 0, .int .u8 0]) w5.heap.size a1.ar 40) := fun cs => ((HZ.out cs).setRow _).row (grown_setRow _ _ _) (by omega)
  have HV2 : Hid (∀ cs : Array Value, CellsAt ((((w5.alloc (.cells cs 40)).alloc (.cells #[.int .i64 0, .int .u8 0, .int .u8 0] 42)).setRow w5.heap.size a1.ar).setRow (w5.heap.size + 1) #[.int .i64 0, .int .u8 0, .int .u8 0]) (w5.heap.size + 1) #[.int .i64 0, .int .u8 0, .int .u8 0] 42) := fun cs => (HY.out cs).setRow _
  have HV5 : Hid (∀ cs : Array Value, Below w5.heap.size w5 ((((w5.alloc (.cells cs 40)).alloc (.cells #[.int .i64 0, .int .u8 0, .int .u8 0] 42)).setRow w5.heap.size a1.ar).setRow (w5.heap.size + 1) #[.int .i64 0, .int .u8 0, .int .u8 0])) := fun cs => ((((Below.refl _ _).alloc (Nat.le_refl _) _).alloc (by simp) _).grown (grown_setRow _ _ _) (by simp; omega) (fun k hk => by cases hk; omega)).grown (grown_setRow _ _ _) (by simp [setRow_size]; omega) (fun k hk => by cases hk; omega)
  have HV3 : Hid (∀ cs : Array Value, AtrOk ((((w5.alloc (.cells cs 40)).alloc (.cells #[.int .i64 0, .int .u8 0, .int .u8 0] 42)).setRow w5.heap.size a1.ar).setRow (w5.heap.size + 1) #[.int .i64 0, .int .u8 0, .int .u8 0]) a1) := fun cs => HA1.out.below (HV5.out cs) (Nat.le_refl _)
  have hs5 := HB5.out.size
  have HV4 : Hid (∀ cs : Array Value, Below w.heap.size w ((((w5.alloc (.cells cs 40)).alloc (.cells #[.int .i64 0, .int .u8 0, .int .u8 0] 42)).setRow w5.heap.size a1.ar).setRow (w5.heap.size + 1) #[.int .i64 0, .int .u8 0, .int .u8 0])) := fun cs => HB5.out.trans ((HV5.out cs).mono hs5)
  clear HB5 HA1 hs5 HV5 e5
  go_upto_region 5 with (with_reducible show wpList _ _ _ (_ :: _) _ _; first | refine wpList_store_attrs rfl (.tmp 7) (.tmp 26) rfl w5.heap.size rfl a1 rfl noAtr (HZ.out _) ?_ | refine wpList_store_verdict rfl (.tmp 8) (.tmp 27) rfl (w5.heap.size + 1) rfl ⟨0, 0, 0⟩ rfl ⟨0, 0, 0⟩ (HY.out _) ?_)
  refine wp_region_held_drew (S := fun w' => CellsAt w' w5.heap.size a1.ar 40 ∧ CellsAt w' (w5.heap.size + 1) #[.int .i64 0, .int .u8 0, .int .u8 0] 42 ∧ AtrOk w' a1 ∧ Below w.heap.size w w') (by kernel_rfl) (⟨(HV1.out _).drew 1, (HV2.out _).drew 1, (HV3.out _).below (below_drewN (Below.refl _ _) 1) (Nat.le_refl _), below_drewN (HV4.out _) 1⟩) (fun hHeld => ?_)
  refine wpAnyH_take (i := 0) (oi := { dst := some 28, op := Op.move (Operand.tmp 2), type := 23, pos := "outright.go:23", after := #[], guard := none }) (v := ?_) rfl (by kernel_rfl) (by kernel_rfl) (by kernel_rfl) (fun _ _ _ h => h) (Or.inl ⟨by rfl, ?_⟩) hHeld ?_
  rotate_left
  · intro w hSw
    clear hSw
    go_simp
    try with_reducible rfl
  try simp only [Act.put, List.setIfInBounds_toArray, List.set_cons_zero, List.set_cons_succ]
  refine wpAnyH_take (i := 1) (oi := { dst := some 29, op := Op.binOp BinOp.eql 23 (Operand.tmp 28) (Operand.const (Value.int IntKind.i64 0)) 23, type := 4, pos := "outright.go:23", after := #[{ on := 0, ground := Ground.data }], guard := none }) (v := ?_) rfl (by kernel_rfl) (by kernel_rfl) (by kernel_rfl) (fun _ _ _ h => h) (Or.inl ⟨by rfl, ?_⟩) hHeld ?_
  rotate_left
  · intro w hSw
    clear hSw
    go_simp
    try with_reducible rfl
  try simp only [Act.put, List.setIfInBounds_toArray, List.set_cons_zero, List.set_cons_succ]
  refine wpAnyH_take (i := 2) (oi := { dst := some 30, op := Op.move (Operand.tmp 29), type := 4, pos := "outright.go:23", after := #[{ on := 1, ground := Ground.data }], guard := none }) (v := ?_) rfl (by kernel_rfl) (by kernel_rfl) (by kernel_rfl) (fun _ _ _ h => h) (Or.inl ⟨by rfl, ?_⟩) hHeld ?_
  rotate_left
  · intro w hSw
    clear hSw
    go_simp
    try with_reducible rfl
  try simp only [Act.put, List.setIfInBounds_toArray, List.set_cons_zero, List.set_cons_succ]
  refine wpAnyH_take (i := 3) (oi := { dst := some 31, op := Op.move (Operand.tmp 4), type := 23, pos := "outright.go:23", after := #[{ on := 2, ground := Ground.guard }], guard := some (2, true) }) (v := ?_) rfl (by kernel_rfl) (by kernel_rfl) (by kernel_rfl) (fun _ _ _ h => h) (Or.inl ⟨by rfl, ?_⟩) hHeld ?_
  rotate_left
  · intro w hSw
    clear hSw
    go_simp
    try with_reducible rfl
  try simp only [Act.put, List.setIfInBounds_toArray, List.set_cons_zero, List.set_cons_succ]
  refine wpAnyH_take (i := 4) (oi := { dst := some 32, op := Op.binOp BinOp.eql 23 (Operand.tmp 31) (Operand.const (Value.int IntKind.i64 0)) 23, type := 4, pos := "outright.go:23", after := #[{ on := 3, ground := Ground.data }, { on := 2, ground := Ground.guard }], guard := some (2, true) }) (v := ?_) rfl (by kernel_rfl) (by kernel_rfl) (by kernel_rfl) (fun _ _ _ h => h) (Or.inl ⟨by rfl, ?_⟩) hHeld ?_
  rotate_left
  · intro w hSw
    clear hSw
    go_simp
    try with_reducible rfl
  try simp only [Act.put, List.setIfInBounds_toArray, List.set_cons_zero, List.set_cons_succ]
  refine wpAnyH_take (i := 5) (oi := { dst := some 33, op := Op.pick (Operand.tmp 30) (Operand.tmp 32) (Operand.const (Value.bool false)), type := 4, pos := "outright.go:23", after := #[{ on := 2, ground := Ground.data }, { on := 4, ground := Ground.data }], guard := none }) (v := ?_) rfl (by kernel_rfl) (by kernel_rfl) (by kernel_rfl) (fun _ _ _ h => h) (Or.inl ⟨by rfl, ?_⟩) hHeld ?_
  rotate_left
  · intro w hSw
    clear hSw
    go_simp
    try with_reducible rfl
  try simp only [Act.put, List.setIfInBounds_toArray, List.set_cons_zero, List.set_cons_succ]
  refine wpAnyH_take (i := 6) (oi := { dst := some 34, op := Op.move (Operand.tmp 33), type := 4, pos := "outright.go:23", after := #[{ on := 5, ground := Ground.data }, { on := 2, ground := Ground.chain }], guard := none }) (v := ?_) rfl (by kernel_rfl) (by kernel_rfl) (by kernel_rfl) (fun _ _ _ h => h) (Or.inl ⟨by rfl, ?_⟩) hHeld ?_
  rotate_left
  · intro w hSw
    clear hSw
    go_simp
    try with_reducible rfl
  try simp only [Act.put, List.setIfInBounds_toArray, List.set_cons_zero, List.set_cons_succ]
  refine wpAnyH_take (i := 7) (oi := { dst := some 35, op := Op.move (Operand.tmp 3), type := 9, pos := "outright.go:23", after := #[{ on := 6, ground := Ground.guard }], guard := some (6, true) }) (v := ?_) rfl (by kernel_rfl) (by kernel_rfl) (by kernel_rfl) (fun _ _ _ h => h) (Or.inl ⟨by rfl, ?_⟩) hHeld ?_
  rotate_left
  · intro w hSw
    clear hSw
    go_simp
    try with_reducible rfl
  try simp only [Act.put, List.setIfInBounds_toArray, List.set_cons_zero, List.set_cons_succ]
  refine wpAnyH_take (i := 8) (oi := { dst := some 36, op := Op.binOp BinOp.eql 9 (Operand.tmp 35) (Operand.const (Value.string { data := #[64, 1, 1, 1, 64, 2, 6, 2, 1, 0, 0, 0, 1, 64, 3, 4, 10, 0, 0, 1] })) 9, type := 4, pos := "outright.go:23", after := #[{ on := 7, ground := Ground.data }, { on := 6, ground := Ground.guard }], guard := some (6, true) }) (v := ?_) rfl (by kernel_rfl) (by kernel_rfl) (by kernel_rfl) (fun _ _ _ h => h) (Or.inl ⟨by rfl, ?_⟩) hHeld ?_
  rotate_left
  · intro w hSw
    clear hSw
    go_simp
    try with_reducible rfl
  try simp only [Act.put, List.setIfInBounds_toArray, List.set_cons_zero, List.set_cons_succ]
  refine wpAnyH_take (i := 9) (oi := { dst := some 37, op := Op.pick (Operand.tmp 34) (Operand.tmp 36) (Operand.const (Value.bool false)), type := 4, pos := "outright.go:23", after := #[{ on := 6, ground := Ground.data }, { on := 8, ground := Ground.data }], guard := none }) (v := ?_) rfl (by kernel_rfl) (by kernel_rfl) (by kernel_rfl) (fun _ _ _ h => h) (Or.inl ⟨by rfl, ?_⟩) hHeld ?_
  rotate_left
  · intro w hSw
    clear hSw
    go_simp
    try with_reducible rfl
  try simp only [Act.put, List.setIfInBounds_toArray, List.set_cons_zero, List.set_cons_succ]
  refine wpAnyH_take (i := 10) (oi := { dst := some 38, op := Op.move (Operand.tmp 37), type := 4, pos := "outright.go:23", after := #[{ on := 9, ground := Ground.data }, { on := 6, ground := Ground.chain }], guard := none }) (v := ?_) rfl (by kernel_rfl) (by kernel_rfl) (by kernel_rfl) (fun _ _ _ h => h) (Or.inl ⟨by rfl, ?_⟩) hHeld ?_
  rotate_left
  · intro w hSw
    clear hSw
    go_simp
    try with_reducible rfl
  try simp only [Act.put, List.setIfInBounds_toArray, List.set_cons_zero, List.set_cons_succ]
  refine wpAnyH_take (i := 11) (oi := { dst := some 39, op := Op.move (Operand.tmp 6), type := 4, pos := "outright.go:23", after := #[{ on := 10, ground := Ground.guard }], guard := some (10, true) }) (v := ?_) rfl (by kernel_rfl) (by kernel_rfl) (by kernel_rfl) (fun _ _ _ h => h) (Or.inl ⟨by rfl, ?_⟩) hHeld ?_
  rotate_left
  · intro w hSw
    clear hSw
    go_simp
    try with_reducible rfl
  try simp only [Act.put, List.setIfInBounds_toArray, List.set_cons_zero, List.set_cons_succ]
  refine wpAnyH_take (i := 12) (oi := { dst := some 40, op := Op.pick (Operand.tmp 38) (Operand.tmp 39) (Operand.const (Value.bool false)), type := 4, pos := "outright.go:23", after := #[{ on := 10, ground := Ground.data }, { on := 11, ground := Ground.data }], guard := none }) (v := ?_) rfl (by kernel_rfl) (by kernel_rfl) (by kernel_rfl) (fun _ _ _ h => h) (Or.inl ⟨by rfl, ?_⟩) hHeld ?_
  rotate_left
  · intro w hSw
    clear hSw
    go_simp
    try with_reducible rfl
  try simp only [Act.put, List.setIfInBounds_toArray, List.set_cons_zero, List.set_cons_succ]
  refine wpAnyH_take (i := 13) (oi := { dst := some 41, op := Op.move (Operand.tmp 40), type := 4, pos := "outright.go:23", after := #[{ on := 12, ground := Ground.data }, { on := 10, ground := Ground.chain }], guard := none }) (v := ?_) rfl (by kernel_rfl) (by kernel_rfl) (by kernel_rfl) (fun _ _ _ h => h) (Or.inl ⟨by rfl, ?_⟩) hHeld ?_
  rotate_left
  · intro w hSw
    clear hSw
    go_simp
    try with_reducible rfl
  try simp only [Act.put, List.setIfInBounds_toArray, List.set_cons_zero, List.set_cons_succ]
  refine wpAnyH_take (i := 14) (oi := { dst := some 42, op := Op.move (Operand.tmp 5), type := 22, pos := "outright.go:23", after := #[{ on := 13, ground := Ground.guard }], guard := some (13, true) }) (v := ?_) rfl (by kernel_rfl) (by kernel_rfl) (by kernel_rfl) (fun _ _ _ h => h) (Or.inl ⟨by rfl, ?_⟩) hHeld ?_
  rotate_left
  · intro w hSw
    clear hSw
    go_simp
    try with_reducible rfl
  try simp only [Act.put, List.setIfInBounds_toArray, List.set_cons_zero, List.set_cons_succ]
  refine wpAnyH_take (i := 15) (oi := { dst := some 43, op := Op.call { callee := Callee.builtin Builtin.len, args := #[Operand.tmp 42], argTypes := #[22] }, type := 3, pos := "outright.go:23", after := #[{ on := 14, ground := Ground.data }, { on := 13, ground := Ground.guard }], guard := some (13, true) }) (v := ?_) rfl (by kernel_rfl) (by kernel_rfl) (by kernel_rfl) (fun _ _ _ h => h) (Or.inl ⟨by rfl, ?_⟩) hHeld ?_
  rotate_left
  · intro w hSw
    clear hSw
    go_simp
    try with_reducible rfl
  try simp only [Act.put, List.setIfInBounds_toArray, List.set_cons_zero, List.set_cons_succ]
  refine wpAnyH_take (i := 16) (oi := { dst := some 44, op := Op.binOp BinOp.eql 3 (Operand.tmp 43) (Operand.const (Value.int IntKind.i64 3)) 3, type := 4, pos := "outright.go:23", after := #[{ on := 15, ground := Ground.data }, { on := 13, ground := Ground.guard }], guard := some (13, true) }) (v := ?_) rfl (by kernel_rfl) (by kernel_rfl) (by kernel_rfl) (fun _ _ _ h => h) (Or.inl ⟨by rfl, ?_⟩) hHeld ?_
  rotate_left
  · intro w hSw
    clear hSw
    go_simp
    try with_reducible rfl
  try simp only [Act.put, List.setIfInBounds_toArray, List.set_cons_zero, List.set_cons_succ]
  refine wpAnyH_take (i := 17) (oi := { dst := some 45, op := Op.pick (Operand.tmp 41) (Operand.tmp 44) (Operand.const (Value.bool false)), type := 4, pos := "outright.go:23", after := #[{ on := 13, ground := Ground.data }, { on := 16, ground := Ground.data }], guard := none }) (v := ?_) rfl (by kernel_rfl) (by kernel_rfl) (by kernel_rfl) (fun _ _ _ h => h) (Or.inl ⟨by rfl, ?_⟩) hHeld ?_
  rotate_left
  · intro w hSw
    clear hSw
    go_simp
    try with_reducible rfl
  try simp only [Act.put, List.setIfInBounds_toArray, List.set_cons_zero, List.set_cons_succ]
  refine wpAnyH_take (i := 18) (oi := { dst := some 46, op := Op.move (Operand.tmp 45), type := 4, pos := "outright.go:23", after := #[{ on := 17, ground := Ground.data }, { on := 13, ground := Ground.chain }], guard := none }) (v := ?_) rfl (by kernel_rfl) (by kernel_rfl) (by kernel_rfl) (fun _ _ _ h => h) (Or.inl ⟨by rfl, ?_⟩) hHeld ?_
  rotate_left
  · intro w hSw
    clear hSw
    go_simp
    try with_reducible rfl
  try simp only [Act.put, List.setIfInBounds_toArray, List.set_cons_zero, List.set_cons_succ]
  refine wpAnyH_take (i := 19) (oi := { dst := some 47, op := Op.load 42 (Operand.tmp 8), type := 42, pos := "outright.go:23", after := #[{ on := 18, ground := Ground.guard }], guard := some (18, true) }) (v := .agg #[.int .i64 0, .int .u8 0, .int .u8 0]) rfl (by kernel_rfl) (by kernel_rfl) (by kernel_rfl) (fun _ _ _ h => h) (yields_verdict (by rfl) _ rfl (w5.heap.size + 1) (by rfl) ⟨0, 0, 0⟩ (fun w h => h.2.1)) hHeld ?_
  try simp only [Act.put, List.setIfInBounds_toArray, List.set_cons_zero, List.set_cons_succ]
  refine wpAnyH_take (i := 20) (oi := { dst := some 48, op := Op.build 42 #[], type := 42, pos := "outright.go:23", after := #[{ on := 18, ground := Ground.guard }], guard := some (18, true) }) (v := ?_) rfl (by kernel_rfl) (by kernel_rfl) (by kernel_rfl) (fun _ _ _ h => h) (Or.inl ⟨by rfl, ?_⟩) hHeld ?_
  rotate_left
  · intro w hSw
    clear hSw
    go_simp
    try with_reducible rfl
  try simp only [Act.put, List.setIfInBounds_toArray, List.set_cons_zero, List.set_cons_succ]
  refine wpAnyH_take (i := 21) (oi := { dst := some 49, op := Op.binOp BinOp.eql 42 (Operand.tmp 47) (Operand.tmp 48) 42, type := 4, pos := "outright.go:23", after := #[{ on := 19, ground := Ground.data }, { on := 20, ground := Ground.data }, { on := 18, ground := Ground.guard }], guard := some (18, true) }) (v := .bool true) rfl (by kernel_rfl) (by kernel_rfl) (by kernel_rfl) (fun _ _ _ h => h) (Or.inl ⟨by rfl, ?_⟩) hHeld ?_
  · intro w hSw
    clear hSw
    go_simp
    skip
  try simp only [Act.put, List.setIfInBounds_toArray, List.set_cons_zero, List.set_cons_succ]
  refine wpAnyH_take (i := 22) (oi := { dst := some 50, op := Op.pick (Operand.tmp 46) (Operand.tmp 49) (Operand.const (Value.bool false)), type := 4, pos := "outright.go:23", after := #[{ on := 18, ground := Ground.data }, { on := 21, ground := Ground.data }], guard := none }) (v := ?_) rfl (by kernel_rfl) (by kernel_rfl) (by kernel_rfl) (fun _ _ _ h => h) (Or.inl ⟨by rfl, ?_⟩) hHeld ?_
  rotate_left
  · intro w hSw
    clear hSw
    go_simp
    try with_reducible rfl
  try simp only [Act.put, List.setIfInBounds_toArray, List.set_cons_zero, List.set_cons_succ]
  refine wpAnyH_take (i := 23) (oi := { dst := some 51, op := Op.move (Operand.tmp 50), type := 4, pos := "outright.go:23", after := #[{ on := 22, ground := Ground.data }, { on := 18, ground := Ground.chain }], guard := none }) (v := ?_) rfl (by kernel_rfl) (by kernel_rfl) (by kernel_rfl) (fun _ _ _ h => h) (Or.inl ⟨by rfl, ?_⟩) hHeld ?_
  rotate_left
  · intro w hSw
    clear hSw
    go_simp
    try with_reducible rfl
  try simp only [Act.put, List.setIfInBounds_toArray, List.set_cons_zero, List.set_cons_succ]
  refine wpAnyH_take (i := 24) (oi := { dst := some 52, op := Op.load 40 (Operand.tmp 7), type := 40, pos := "outright.go:23", after := #[{ on := 23, ground := Ground.guard }], guard := some (23, true) }) (v := .agg a1.ar) rfl (by kernel_rfl) (by kernel_rfl) (by kernel_rfl) (fun _ _ _ h => h) (yields_attrs (by rfl) _ rfl w5.heap.size (by rfl) a1 (fun w h => h.1)) hHeld ?_
  try simp only [Act.put, List.setIfInBounds_toArray, List.set_cons_zero, List.set_cons_succ]
  refine wpAnyH_ready (rs := [25]) (by kernel_rfl) (by simp) ?_
  refine AllReadyH.cons (o := { dst := some 53, op := Op.call { callee := Callee.value (Operand.func 32), args := #[], argTypes := #[] }, type := 40, pos := "outright.go:23", after := #[{ on := 23, ground := Ground.chain }, { on := 23, ground := Ground.guard }], guard := some (23, true) }) rfl (fun K hK => ?_) AllReadyH.nil
  go_simp
  refine (HONE.out _).mono ?_
  rintro e w6 ⟨⟨a2, rfl, ha2, hc2⟩, hb6⟩
  have HS6 := Lib.hid hHeld
  have HA2 := Lib.hid ha2
  have HC2 := Lib.hid hc2
  refine hK.out _ _ (⟨HS6.out.1.below hb6 HS6.out.1.lt, HS6.out.2.1.below hb6 HS6.out.2.1.lt, HS6.out.2.2.1.below hb6 (Nat.le_refl _), HS6.out.2.2.2.trans (hb6.mono HS6.out.2.2.2.size)⟩) (fun hHeld => ?_)
  clear hK K
  try simp only [Act.put, List.setIfInBounds_toArray, List.set_cons_zero, List.set_cons_succ]
  refine wpAnyH_ready (rs := [26]) (by kernel_rfl) (by simp) ?_
  refine AllReadyH.cons (o := { dst := some 54, op := Op.call { callee := Callee.value (Operand.func 23), args := #[Operand.tmp 52, Operand.tmp 53], argTypes := #[40, 40] }, type := 4, pos := "outright.go:23", after := #[{ on := 24, ground := Ground.data }, { on := 25, ground := Ground.data }, { on := 25, ground := Ground.chain }, { on := 23, ground := Ground.guard }], guard := some (23, true) }) rfl (fun K hK => ?_) AllReadyH.nil
  go_simp
  refine (HSA.out a1 a2 _ hHeld.2.2.1 HA2.out HC1.out HC2.out).mono ?_
  rintro e w7 ⟨rfl, hb7⟩
  have HS7 := Lib.hid hHeld
  refine hK.out _ _ (⟨HS7.out.1.below hb7 HS7.out.1.lt, HS7.out.2.1.below hb7 HS7.out.2.1.lt, HS7.out.2.2.1.below hb7 (Nat.le_refl _), HS7.out.2.2.2.trans (hb7.mono HS7.out.2.2.2.size)⟩) (fun hHeld => ?_)
  clear hK K
  try simp only [Act.put, List.setIfInBounds_toArray, List.set_cons_zero, List.set_cons_succ]
  refine wpAnyH_take (i := 27) (oi := { dst := some 55, op := Op.pick (Operand.tmp 51) (Operand.tmp 54) (Operand.const (Value.bool false)), type := 4, pos := "outright.go:23", after := #[{ on := 23, ground := Ground.data }, { on := 26, ground := Ground.data }], guard := none }) (v := ?_) rfl (by kernel_rfl) (by kernel_rfl) (by kernel_rfl) (fun _ _ _ h => h) (Or.inl ⟨by rfl, ?_⟩) hHeld ?_
  rotate_left
  · intro w hSw
    clear hSw
    go_simp
    try with_reducible rfl
  try simp only [Act.put, List.setIfInBounds_toArray, List.set_cons_zero, List.set_cons_succ]
  refine wpAnyH_take (i := 28) (oi := { dst := some 0, op := Op.assign (Operand.tmp 55), type := 4, pos := "outright.go:23", after := #[{ on := 27, ground := Ground.data }, { on := 26, ground := Ground.chain }, { on := 0, ground := Ground.phase }, { on := 1, ground := Ground.phase }, { on := 2, ground := Ground.phase }, { on := 3, ground := Ground.phase }, { on := 4, ground := Ground.phase }, { on := 5, ground := Ground.phase }, { on := 6, ground := Ground.phase }, { on := 7, ground := Ground.phase }, { on := 8, ground := Ground.phase }, { on := 9, ground := Ground.phase }, { on := 10, ground := Ground.phase }, { on := 11, ground := Ground.phase }, { on := 12, ground := Ground.phase }, { on := 13, ground := Ground.phase }, { on := 14, ground := Ground.phase }, { on := 15, ground := Ground.phase }, { on := 16, ground := Ground.phase }, { on := 17, ground := Ground.phase }, { on := 18, ground := Ground.phase }, { on := 19, ground := Ground.phase }, { on := 20, ground := Ground.phase }, { on := 21, ground := Ground.phase }, { on := 22, ground := Ground.phase }, { on := 23, ground := Ground.phase }, { on := 24, ground := Ground.phase }, { on := 25, ground := Ground.phase }, { on := 26, ground := Ground.phase }, { on := 27, ground := Ground.phase }], guard := none }) (v := ?_) rfl (by kernel_rfl) (by kernel_rfl) (by kernel_rfl) (fun _ _ _ h => h) (Or.inl ⟨by rfl, ?_⟩) hHeld ?_
  rotate_left
  · intro w hSw
    clear hSw
    go_simp
    try with_reducible rfl
  try simp only [Act.put, List.setIfInBounds_toArray, List.set_cons_zero, List.set_cons_succ]
  refine wpAnyH_done (by kernel_rfl) ?_ _
  have HE := Lib.hid hHeld
  clear hHeld
  go_wp2_with fail
  go_ret
  exact ⟨rfl, HE.out.2.2.2⟩
end Go.Proofs.YtkcojblflebomaaGreat
