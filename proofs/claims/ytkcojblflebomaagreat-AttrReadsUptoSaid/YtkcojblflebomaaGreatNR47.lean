/-
  Several texts in one.
-/
import Derived.Test.YtkcojblflebomaaGreatNR45
set_option linter.unusedVariables false
set_option linter.unusedSimpArgs false
namespace Go.Proofs.YtkcojblflebomaaGreat
open Go.RowKit Go.MapKept Go.Shelf
open Go.Lib hiding intOf
open Go.Sort hiding Below

set_option maxRecDepth 100000 in
set_option maxHeartbeats 16000000 in
theorem rone_no1 (a : Atr) (f : UInt8) (t b : Nat) (v : ByteArray) (four internal : Bool) (w : World) (base : Nat) (hbs : base ≤ w.heap.size) (ha : AtO w base a) (hv : v.size ≤ 1048576) (z14 : ((t : Int) == 14) = false) (z15 : ((t : Int) == 15) = false) (hbt : bitsV t = b) (zb0 : ((b : Int) == 0) = false) (htk : (∀ W : World, base ≤ W.heap.size → AtO W base a → Calls Tryz.prog 91 #[.agg a.ar, .agg #[.int .u8 f.toNat, .int .u8 (t : Nat), .string v], .bool four] W fun e w' => (∃ a' : Atr, e = .returned (.tuple #[.agg a'.ar, .bool false])) ∧ Below W.heap.size W w')) (hin : internal = true ∨ (internal = false ∧ ((t : Int) == 5) = false ∧ ((t : Int) == 9) = false ∧ ((t : Int) == 10) = false)) (z8 : ((t : Int) == 8) = false) (y10 : ((t : Int) == 10) = false) (z16 : ((t : Int) == 16) = false) (z32 : ((t : Int) == 32) = false) (h67 : ((t : Int) == 6) = true ∨ (((t : Int) == 6) = false ∧ ((t : Int) == 7) = true)) (hf : ((f &&& 192).toNat : Int) = (b : Int)) :
    Calls Tryz.prog 41 #[.agg a.ar, .agg #[.int .u8 f.toNat, .int .u8 (t : Nat), .string v], .bool four, .bool internal] w fun e w' => OnePost base a.c (Vd.mk 1 0 0) w' e ∧ Below w.heap.size w w' := by
  have HAT := Lib.hid ha
  have HBT : Hid (∀ W, Calls Tryz.prog 90 #[.int .u8 (t : Nat)] W fun e w' => e = .returned (.int .u8 (b : Nat)) ∧ w' = W) := fun W => by
    have h := rbits_any t W
    rwa [hbt] at h
  clear hbt
  have HTK := Lib.hid htk
  clear htk
  have z192 := and192 f
  have zb : (((f &&& 192).toNat : Int) == (b : Int)) = true := beq_iff_eq.2 hf
  have zb' : (((f &&& 192).toNat : Int) != (b : Int)) = false := by rw [bne, zb]; rfl
  generalize (f &&& 192).toNat = q8 at z192 zb zb'
  clear hf
  rcases h67 with z6 | ⟨z6, z7⟩ <;> rcases hin with rfl | ⟨rfl, z5, z9, z10⟩
  all_goals (
    go_enter Tryz.func41, Tryz.ntmps41
    go_upto_region 1 with fail
    refine wp_name fun V hV => ?_
    obtain ⟨s, hs⟩ : ∃ s, s = w.heap.size := ⟨_, rfl⟩
    have HC : Hid (CellsAt V s a.ar 40) := by rw [hV, hs]; exact (((CellsAt.new _ _ _).alloc _).alloc _).alloc _
    have HR : Hid (CellsAt V (s + 1) #[.int .u8 f.toNat, .int .u8 (t : Nat), .string v] 32) := by rw [hV, hs]; exact (new2 _ _ _ _ _).alloc _
    have HZ : Hid (CellsAt V (s + 1 + 1) noAtr.ar 40) := by rw [hV, hs]; exact (new3 _ _ _ _ _).alloc _
    have HY : Hid (CellsAt V (s + 1 + 1 + 1) #[.int .i64 0, .int .u8 0, .int .u8 0] 42) := by rw [hV, hs]; exact new4 _ _ _ _ _ _
    have HB : Hid (Below w.heap.size w V) := by rw [hV]; exact (below3 _ _ _ _).alloc (below3 _ _ _ _).size _
    have HS : Hid (s = w.heap.size) := hs
    rw [← hs] at hbs ⊢
    clear hV hs ha
    obtain ⟨r0, r1, r2⟩ := CellsAt.c3 HR.out
    go_wp2_with fail
    refine (HBT.out _).mono ?_
    rintro e w2 ⟨rfl, hw2⟩
    subst w2
    have HRd : Hid (CellsAt V.drew (s + 1) #[.int .u8 f.toNat, .int .u8 (t : Nat), .string v] 32) := HR.out.drew 1
    have HCd : Hid (CellsAt V.drew s a.ar 40) := HC.out.drew 1
    have HZd : Hid (CellsAt V.drew (s + 1 + 1) noAtr.ar 40) := HZ.out.drew 1
    have HYd : Hid (CellsAt V.drew (s + 1 + 1 + 1) #[.int .i64 0, .int .u8 0, .int .u8 0] 42) := HY.out.drew 1
    have HBd : Hid (Below w.heap.size w V.drew) := below_drewN HB.out 1
    obtain ⟨d0, d1, d2⟩ := CellsAt.c3 HRd.out
    go_upto_region 9 with fail
    refine wp_region_held_drew (S := fun w' => w' = V.drew) (by kernel_rfl) (rfl) (fun hHeld => ?_)
    refine wpAnyH_take (i := 0) (oi := { dst := some 53, op := Op.fieldAddr 32 (Operand.tmp 5) 0, type := 0, pos := "ref.go:378", after := #[], guard := none }) (v := ?_) rfl (by kernel_rfl) (by kernel_rfl) (by kernel_rfl) (fun _ _ _ h => h) (Or.inl ⟨by rfl, ?_⟩) hHeld ?_
    rotate_left
    · intro w hSw
      clear hSw
      go_simp
      try with_reducible rfl
    try simp only [Act.put, List.setIfInBounds_toArray, List.set_cons_zero, List.set_cons_succ]
    refine wpAnyH_take (i := 1) (oi := { dst := some 54, op := Op.load 5 (Operand.tmp 53), type := 5, pos := "ref.go:378", after := #[{ on := 0, ground := Ground.data }], guard := none }) (v := ?_) rfl (by kernel_rfl) (by kernel_rfl) (by kernel_rfl) (fun _ _ _ h => h) (Or.inl ⟨by rfl, ?_⟩) hHeld ?_
    rotate_left
    · intro w hSw
      obtain rfl := hSw
      go_simp
      try with_reducible rfl
    try simp only [Act.put, List.setIfInBounds_toArray, List.set_cons_zero, List.set_cons_succ]
    refine wpAnyH_take (i := 2) (oi := { dst := some 55, op := Op.binOp BinOp.and 5 (Operand.tmp 54) (Operand.const (Value.int IntKind.u8 192)) 5, type := 5, pos := "ref.go:378", after := #[{ on := 1, ground := Ground.data }], guard := none }) (v := ?_) rfl (by kernel_rfl) (by kernel_rfl) (by kernel_rfl) (fun _ _ _ h => h) (Or.inl ⟨by rfl, ?_⟩) hHeld ?_
    rotate_left
    · intro w hSw
      clear hSw
      go_simp
      try with_reducible rfl
    try simp only [Act.put, List.setIfInBounds_toArray, List.set_cons_zero, List.set_cons_succ]
    refine wpAnyH_take (i := 3) (oi := { dst := some 56, op := Op.fieldAddr 32 (Operand.tmp 5) 1, type := 0, pos := "ref.go:378", after := #[], guard := none }) (v := ?_) rfl (by kernel_rfl) (by kernel_rfl) (by kernel_rfl) (fun _ _ _ h => h) (Or.inl ⟨by rfl, ?_⟩) hHeld ?_
    rotate_left
    · intro w hSw
      clear hSw
      go_simp
      try with_reducible rfl
    try simp only [Act.put, List.setIfInBounds_toArray, List.set_cons_zero, List.set_cons_succ]
    refine wpAnyH_take (i := 4) (oi := { dst := some 57, op := Op.load 5 (Operand.tmp 56), type := 5, pos := "ref.go:378", after := #[{ on := 3, ground := Ground.data }], guard := none }) (v := ?_) rfl (by kernel_rfl) (by kernel_rfl) (by kernel_rfl) (fun _ _ _ h => h) (Or.inl ⟨by rfl, ?_⟩) hHeld ?_
    rotate_left
    · intro w hSw
      obtain rfl := hSw
      go_simp
      try with_reducible rfl
    try simp only [Act.put, List.setIfInBounds_toArray, List.set_cons_zero, List.set_cons_succ]
    refine wpAnyH_ready (rs := [5]) (by kernel_rfl) (by simp) ?_
    refine AllReadyH.cons (o := { dst := some 58, op := Op.call { callee := Callee.value (Operand.func 90), args := #[Operand.tmp 57], argTypes := #[5] }, type := 5, pos := "ref.go:378", after := #[{ on := 4, ground := Ground.data }], guard := none }) rfl (fun K hK => ?_) AllReadyH.nil
    go_simp
    refine (HBT.out _).mono ?_
    rintro e w2 ⟨rfl, hw2⟩
    subst w2
    refine hK.out _ _ (hHeld) (fun hHeld => ?_)
    clear hK K
    try simp only [Act.put, List.setIfInBounds_toArray, List.set_cons_zero, List.set_cons_succ]
    refine wpAnyH_take (i := 6) (oi := { dst := some 59, op := Op.binOp BinOp.neq 5 (Operand.tmp 55) (Operand.tmp 58) 5, type := 4, pos := "ref.go:378", after := #[{ on := 2, ground := Ground.data }, { on := 5, ground := Ground.data }], guard := none }) (v := ?_) rfl (by kernel_rfl) (by kernel_rfl) (by kernel_rfl) (fun _ _ _ h => h) (Or.inl ⟨by rfl, ?_⟩) hHeld ?_
    rotate_left
    · intro w hSw
      clear hSw
      go_simp
      try with_reducible rfl
    try simp only [Act.put, List.setIfInBounds_toArray, List.set_cons_zero, List.set_cons_succ]
    refine wpAnyH_done (by kernel_rfl) ?_ _
    go_wp2_with (with_reducible show wpList _ _ _ (_ :: _) _ _; refine wpList_load_attrs rfl (.tmp 4) rfl s rfl a HCd.out ?_)
    refine (HTK.out _ (Nat.le_trans hbs (by have := HBd.out.size; have := HS.out; omega)) (AtO.below HAT.out HBd.out)).mono ?_
    rintro e w1 ⟨⟨a2, rfl⟩, hb⟩
    have HC1 : Hid (CellsAt w1 s a.ar 40) := HCd.out.below hb HCd.out.lt
    have HR1 : Hid (CellsAt w1 (s + 1) #[.int .u8 f.toNat, .int .u8 (t : Nat), .string v] 32) := HRd.out.below hb HRd.out.lt
    have HZ1 : Hid (CellsAt w1 (s + 1 + 1) noAtr.ar 40) := HZd.out.below hb HZd.out.lt
    have HY1 : Hid (CellsAt w1 (s + 1 + 1 + 1) #[.int .i64 0, .int .u8 0, .int .u8 0] 42) := HYd.out.below hb HYd.out.lt
    have HB1 : Hid (Below w.heap.size w w1) := HBd.out.trans (hb.mono HBd.out.size)
    have HN : Hid (∀ cs : Array Value, CellsAt (w1.alloc (.cells cs 40)) w1.heap.size cs 40) := fun cs => CellsAt.new _ _ _
    have hw1 := HY1.out.lt
    clear hb d0 d1 d2 r0 r1 r2
    go_upto_region 12 with (with_reducible show wpList _ _ _ (_ :: _) _ _; refine wpList_store_attrs rfl (.tmp 10) (.tmp 67) rfl w1.heap.size rfl a2 rfl noAtr (HN.out _) ?_)
    refine wp_name fun X hX => ?_
    obtain ⟨gb, hgb⟩ : ∃ gb, gb = w1.heap.size := ⟨_, rfl⟩
    have HBX : Hid (Below w1.heap.size w1 X) := by rw [hX]; exact ((Below.refl _ _).alloc (Nat.le_refl _) _).grown (grown_setRow' _ _ _) (by simp) (fun k hk => by cases hk; exact Nat.le_refl _)
    have HGX : Hid (CellsAt X gb a2.ar 40) := by rw [hX, hgb]; exact (HN.out _).setRow' _
    rw [← hgb] at hw1 ⊢
    have HCX : Hid (CellsAt X s a.ar 40) := HC1.out.below HBX.out HC1.out.lt
    have HRX : Hid (CellsAt X (s + 1) #[.int .u8 f.toNat, .int .u8 (t : Nat), .string v] 32) := HR1.out.below HBX.out HR1.out.lt
    have HZX : Hid (CellsAt X (s + 1 + 1) noAtr.ar 40) := HZ1.out.below HBX.out HZ1.out.lt
    have HYX : Hid (CellsAt X (s + 1 + 1 + 1) #[.int .i64 0, .int .u8 0, .int .u8 0] 42) := HY1.out.below HBX.out HY1.out.lt
    have HB2 : Hid (Below w.heap.size w X) := HB1.out.trans (HBX.out.mono HB1.out.size)
    clear hX hgb
    obtain ⟨x0, x1, x2⟩ := CellsAt.c3 HRX.out
    have HYQ : Hid (CellsAt (X.setRow (s + 1 + 1) a.ar) (s + 1 + 1 + 1) #[.int .i64 (Vd.mk 0 0 0).act, .int .u8 (Vd.mk 0 0 0).code, .int .u8 (Vd.mk 0 0 0).sub] 42) := (setRow_other _ _ _ _ (by omega)).trans HYX.out
    go_wp2_with (with_reducible show wpList _ _ _ (_ :: _) _ _; first | refine wpList_load_attrs rfl (.tmp 4) rfl s rfl a HCX.out ?_ | refine wpList_store_attrs rfl (.tmp 8) (.tmp 104) rfl (s + 1 + 1) rfl a rfl noAtr HZX.out ?_ | refine wpList_store_verdict rfl (.tmp 9) (.tmp 105) rfl (s + 1 + 1 + 1) rfl (Vd.mk 1 0 0) rfl (Vd.mk 0 0 0) HYQ.out ?_)
    have HG1 : Hid (Below w.heap.size w (X.setRow (s + 1 + 1) a.ar)) := HB2.out.grown (grown_setRow' _ _ _) HB2.out.size (fun k hk => by cases hk; have := HS.out; omega)
    have HBF : Hid (Below w.heap.size w ((X.setRow (s + 1 + 1) a.ar).setRow (s + 1 + 1 + 1) (Vd.mk 1 0 0).ar)) := HG1.out.grown (grown_setRow' _ _ _) HG1.out.size (fun k hk => by cases hk; have := HS.out; omega)
    have HFA : Hid (CellsAt ((X.setRow (s + 1 + 1) a.ar).setRow (s + 1 + 1 + 1) (Vd.mk 1 0 0).ar) (s + 1 + 1) a.ar 40) := (setRow_other _ _ _ _ (by omega)).trans (HZX.out.setRow' _)
    have HFV : Hid (VdAt ((X.setRow (s + 1 + 1) a.ar).setRow (s + 1 + 1 + 1) (Vd.mk 1 0 0).ar) (s + 1 + 1 + 1) (Vd.mk 1 0 0)) := HYQ.out.setRow' _
    exact bodyPost_ret (results_at8 rfl _ _ (s + 1 + 1) (s + 1 + 1 + 1) a (Vd.mk 1 0 0) rfl rfl HFA.out HFV.out) rfl ⟨⟨a, rfl, AtO.below HAT.out HBF.out, rfl⟩, HBF.out⟩)
set_option maxRecDepth 100000 in
set_option maxHeartbeats 16000000 in
theorem rone_no2 (a : Atr) (f : UInt8) (t b : Nat) (v : ByteArray) (four internal : Bool) (w : World) (base : Nat) (hbs : base ≤ w.heap.size) (ha : AtO w base a) (hv : v.size ≤ 1048576) (z14 : ((t : Int) == 14) = false) (z15 : ((t : Int) == 15) = false) (hbt : bitsV t = b) (zb0 : ((b : Int) == 0) = false) (htk : (∀ W : World, base ≤ W.heap.size → AtO W base a → Calls Tryz.prog 91 #[.agg a.ar, .agg #[.int .u8 f.toNat, .int .u8 (t : Nat), .string v], .bool four] W fun e w' => (∃ a' : Atr, e = .returned (.tuple #[.agg a'.ar, .bool false])) ∧ Below W.heap.size W w')) (hin : internal = true ∨ (internal = false ∧ ((t : Int) == 5) = false ∧ ((t : Int) == 9) = false ∧ ((t : Int) == 10) = false)) (z8 : ((t : Int) == 8) = false) (y10 : ((t : Int) == 10) = false) (z16 : ((t : Int) == 16) = false) (z32 : ((t : Int) == 32) = false) (z6 : ((t : Int) == 6) = false) (z7 : ((t : Int) == 7) = false) (hf : ((f &&& 192).toNat : Int) = (b : Int)) :
    Calls Tryz.prog 41 #[.agg a.ar, .agg #[.int .u8 f.toNat, .int .u8 (t : Nat), .string v], .bool four, .bool internal] w fun e w' => OnePost base a.c (Vd.mk 2 0 0) w' e ∧ Below w.heap.size w w' := by
  have HAT := Lib.hid ha
  have HBT : Hid (∀ W, Calls Tryz.prog 90 #[.int .u8 (t : Nat)] W fun e w' => e = .returned (.int .u8 (b : Nat)) ∧ w' = W) := fun W => by
    have h := rbits_any t W
    rwa [hbt] at h
  clear hbt
  have HTK := Lib.hid htk
  clear htk
  have z192 := and192 f
  have zb : (((f &&& 192).toNat : Int) == (b : Int)) = true := beq_iff_eq.2 hf
  have zb' : (((f &&& 192).toNat : Int) != (b : Int)) = false := by rw [bne, zb]; rfl
  generalize (f &&& 192).toNat = q8 at z192 zb zb'
  clear hf
  rcases hin with rfl | ⟨rfl, z5, z9, z10⟩
  all_goals (
    go_enter Tryz.func41, Tryz.ntmps41
    go_upto_region 1 with fail
    refine wp_name fun V hV => ?_
    obtain ⟨s, hs⟩ : ∃ s, s = w.heap.size := ⟨_, rfl⟩
    have HC : Hid (CellsAt V s a.ar 40) := by rw [hV, hs]; exact (((CellsAt.new _ _ _).alloc _).alloc _).alloc _
    have HR : Hid (CellsAt V (s + 1) #[.int .u8 f.toNat, .int .u8 (t : Nat), .string v] 32) := by rw [hV, hs]; exact (new2 _ _ _ _ _).alloc _
    have HZ : Hid (CellsAt V (s + 1 + 1) noAtr.ar 40) := by rw [hV, hs]; exact (new3 _ _ _ _ _).alloc _
    have HY : Hid (CellsAt V (s + 1 + 1 + 1) #[.int .i64 0, .int .u8 0, .int .u8 0] 42) := by rw [hV, hs]; exact new4 _ _ _ _ _ _
    have HB : Hid (Below w.heap.size w V) := by rw [hV]; exact (below3 _ _ _ _).alloc (below3 _ _ _ _).size _
    have HS : Hid (s = w.heap.size) := hs
    rw [← hs] at hbs ⊢
    clear hV hs ha
    obtain ⟨r0, r1, r2⟩ := CellsAt.c3 HR.out
    go_wp2_with fail
    refine (HBT.out _).mono ?_
    rintro e w2 ⟨rfl, hw2⟩
    subst w2
    have HRd : Hid (CellsAt V.drew (s + 1) #[.int .u8 f.toNat, .int .u8 (t : Nat), .string v] 32) := HR.out.drew 1
    have HCd : Hid (CellsAt V.drew s a.ar 40) := HC.out.drew 1
    have HZd : Hid (CellsAt V.drew (s + 1 + 1) noAtr.ar 40) := HZ.out.drew 1
    have HYd : Hid (CellsAt V.drew (s + 1 + 1 + 1) #[.int .i64 0, .int .u8 0, .int .u8 0] 42) := HY.out.drew 1
    have HBd : Hid (Below w.heap.size w V.drew) := below_drewN HB.out 1
    obtain ⟨d0, d1, d2⟩ := CellsAt.c3 HRd.out
    go_upto_region 9 with fail
    refine wp_region_held_drew (S := fun w' => w' = V.drew) (by kernel_rfl) (rfl) (fun hHeld => ?_)
    refine wpAnyH_take (i := 0) (oi := { dst := some 53, op := Op.fieldAddr 32 (Operand.tmp 5) 0, type := 0, pos := "ref.go:378", after := #[], guard := none }) (v := ?_) rfl (by kernel_rfl) (by kernel_rfl) (by kernel_rfl) (fun _ _ _ h => h) (Or.inl ⟨by rfl, ?_⟩) hHeld ?_
    rotate_left
    · intro w hSw
      clear hSw
      go_simp
      try with_reducible rfl
    try simp only [Act.put, List.setIfInBounds_toArray, List.set_cons_zero, List.set_cons_succ]
    refine wpAnyH_take (i := 1) (oi := { dst := some 54, op := Op.load 5 (Operand.tmp 53), type := 5, pos := "ref.go:378", after := #[{ on := 0, ground := Ground.data }], guard := none }) (v := ?_) rfl (by kernel_rfl) (by kernel_rfl) (by kernel_rfl) (fun _ _ _ h => h) (Or.inl ⟨by rfl, ?_⟩) hHeld ?_
    rotate_left
    · intro w hSw
      obtain rfl := hSw
      go_simp
      try with_reducible rfl
    try simp only [Act.put, List.setIfInBounds_toArray, List.set_cons_zero, List.set_cons_succ]
    refine wpAnyH_take (i := 2) (oi := { dst := some 55, op := Op.binOp BinOp.and 5 (Operand.tmp 54) (Operand.const (Value.int IntKind.u8 192)) 5, type := 5, pos := "ref.go:378", after := #[{ on := 1, ground := Ground.data }], guard := none }) (v := ?_) rfl (by kernel_rfl) (by kernel_rfl) (by kernel_rfl) (fun _ _ _ h => h) (Or.inl ⟨by rfl, ?_⟩) hHeld ?_
    rotate_left
    · intro w hSw
      clear hSw
      go_simp
      try with_reducible rfl
    try simp only [Act.put, List.setIfInBounds_toArray, List.set_cons_zero, List.set_cons_succ]
    refine wpAnyH_take (i := 3) (oi := { dst := some 56, op := Op.fieldAddr 32 (Operand.tmp 5) 1, type := 0, pos := "ref.go:378", after := #[], guard := none }) (v := ?_) rfl (by kernel_rfl) (by kernel_rfl) (by kernel_rfl) (fun _ _ _ h => h) (Or.inl ⟨by rfl, ?_⟩) hHeld ?_
    rotate_left
    · intro w hSw
      clear hSw
      go_simp
      try with_reducible rfl
    try simp only [Act.put, List.setIfInBounds_toArray, List.set_cons_zero, List.set_cons_succ]
    refine wpAnyH_take (i := 4) (oi := { dst := some 57, op := Op.load 5 (Operand.tmp 56), type := 5, pos := "ref.go:378", after := #[{ on := 3, ground := Ground.data }], guard := none }) (v := ?_) rfl (by kernel_rfl) (by kernel_rfl) (by kernel_rfl) (fun _ _ _ h => h) (Or.inl ⟨by rfl, ?_⟩) hHeld ?_
    rotate_left
    · intro w hSw
      obtain rfl := hSw
      go_simp
      try with_reducible rfl
    try simp only [Act.put, List.setIfInBounds_toArray, List.set_cons_zero, List.set_cons_succ]
    refine wpAnyH_ready (rs := [5]) (by kernel_rfl) (by simp) ?_
    refine AllReadyH.cons (o := { dst := some 58, op := Op.call { callee := Callee.value (Operand.func 90), args := #[Operand.tmp 57], argTypes := #[5] }, type := 5, pos := "ref.go:378", after := #[{ on := 4, ground := Ground.data }], guard := none }) rfl (fun K hK => ?_) AllReadyH.nil
    go_simp
    refine (HBT.out _).mono ?_
    rintro e w2 ⟨rfl, hw2⟩
    subst w2
    refine hK.out _ _ (hHeld) (fun hHeld => ?_)
    clear hK K
    try simp only [Act.put, List.setIfInBounds_toArray, List.set_cons_zero, List.set_cons_succ]
    refine wpAnyH_take (i := 6) (oi := { dst := some 59, op := Op.binOp BinOp.neq 5 (Operand.tmp 55) (Operand.tmp 58) 5, type := 4, pos := "ref.go:378", after := #[{ on := 2, ground := Ground.data }, { on := 5, ground := Ground.data }], guard := none }) (v := ?_) rfl (by kernel_rfl) (by kernel_rfl) (by kernel_rfl) (fun _ _ _ h => h) (Or.inl ⟨by rfl, ?_⟩) hHeld ?_
    rotate_left
    · intro w hSw
      clear hSw
      go_simp
      try with_reducible rfl
    try simp only [Act.put, List.setIfInBounds_toArray, List.set_cons_zero, List.set_cons_succ]
    refine wpAnyH_done (by kernel_rfl) ?_ _
    go_wp2_with (with_reducible show wpList _ _ _ (_ :: _) _ _; refine wpList_load_attrs rfl (.tmp 4) rfl s rfl a HCd.out ?_)
    refine (HTK.out _ (Nat.le_trans hbs (by have := HBd.out.size; have := HS.out; omega)) (AtO.below HAT.out HBd.out)).mono ?_
    rintro e w1 ⟨⟨a2, rfl⟩, hb⟩
    have HC1 : Hid (CellsAt w1 s a.ar 40) := HCd.out.below hb HCd.out.lt
    have HR1 : Hid (CellsAt w1 (s + 1) #[.int .u8 f.toNat, .int .u8 (t : Nat), .string v] 32) := HRd.out.below hb HRd.out.lt
    have HZ1 : Hid (CellsAt w1 (s + 1 + 1) noAtr.ar 40) := HZd.out.below hb HZd.out.lt
    have HY1 : Hid (CellsAt w1 (s + 1 + 1 + 1) #[.int .i64 0, .int .u8 0, .int .u8 0] 42) := HYd.out.below hb HYd.out.lt
    have HB1 : Hid (Below w.heap.size w w1) := HBd.out.trans (hb.mono HBd.out.size)
    have HN : Hid (∀ cs : Array Value, CellsAt (w1.alloc (.cells cs 40)) w1.heap.size cs 40) := fun cs => CellsAt.new _ _ _
    have hw1 := HY1.out.lt
    clear hb d0 d1 d2 r0 r1 r2
    go_upto_region 12 with (with_reducible show wpList _ _ _ (_ :: _) _ _; refine wpList_store_attrs rfl (.tmp 10) (.tmp 67) rfl w1.heap.size rfl a2 rfl noAtr (HN.out _) ?_)
    refine wp_name fun X hX => ?_
    obtain ⟨gb, hgb⟩ : ∃ gb, gb = w1.heap.size := ⟨_, rfl⟩
    have HBX : Hid (Below w1.heap.size w1 X) := by rw [hX]; exact ((Below.refl _ _).alloc (Nat.le_refl _) _).grown (grown_setRow' _ _ _) (by simp) (fun k hk => by cases hk; exact Nat.le_refl _)
    have HGX : Hid (CellsAt X gb a2.ar 40) := by rw [hX, hgb]; exact (HN.out _).setRow' _
    rw [← hgb] at hw1 ⊢
    have HCX : Hid (CellsAt X s a.ar 40) := HC1.out.below HBX.out HC1.out.lt
    have HRX : Hid (CellsAt X (s + 1) #[.int .u8 f.toNat, .int .u8 (t : Nat), .string v] 32) := HR1.out.below HBX.out HR1.out.lt
    have HZX : Hid (CellsAt X (s + 1 + 1) noAtr.ar 40) := HZ1.out.below HBX.out HZ1.out.lt
    have HYX : Hid (CellsAt X (s + 1 + 1 + 1) #[.int .i64 0, .int .u8 0, .int .u8 0] 42) := HY1.out.below HBX.out HY1.out.lt
    have HB2 : Hid (Below w.heap.size w X) := HB1.out.trans (HBX.out.mono HB1.out.size)
    clear hX hgb
    obtain ⟨x0, x1, x2⟩ := CellsAt.c3 HRX.out
    have HYQ : Hid (CellsAt (X.setRow (s + 1 + 1) a.ar) (s + 1 + 1 + 1) #[.int .i64 (Vd.mk 0 0 0).act, .int .u8 (Vd.mk 0 0 0).code, .int .u8 (Vd.mk 0 0 0).sub] 42) := (setRow_other _ _ _ _ (by omega)).trans HYX.out
    go_wp2_with (with_reducible show wpList _ _ _ (_ :: _) _ _; first | refine wpList_load_attrs rfl (.tmp 4) rfl s rfl a HCX.out ?_ | refine wpList_store_attrs rfl (.tmp 8) (.tmp 106) rfl (s + 1 + 1) rfl a rfl noAtr HZX.out ?_ | refine wpList_store_verdict rfl (.tmp 9) (.tmp 107) rfl (s + 1 + 1 + 1) rfl (Vd.mk 2 0 0) rfl (Vd.mk 0 0 0) HYQ.out ?_)
    have HG1 : Hid (Below w.heap.size w (X.setRow (s + 1 + 1) a.ar)) := HB2.out.grown (grown_setRow' _ _ _) HB2.out.size (fun k hk => by cases hk; have := HS.out; omega)
    have HBF : Hid (Below w.heap.size w ((X.setRow (s + 1 + 1) a.ar).setRow (s + 1 + 1 + 1) (Vd.mk 2 0 0).ar)) := HG1.out.grown (grown_setRow' _ _ _) HG1.out.size (fun k hk => by cases hk; have := HS.out; omega)
    have HFA : Hid (CellsAt ((X.setRow (s + 1 + 1) a.ar).setRow (s + 1 + 1 + 1) (Vd.mk 2 0 0).ar) (s + 1 + 1) a.ar 40) := (setRow_other _ _ _ _ (by omega)).trans (HZX.out.setRow' _)
    have HFV : Hid (VdAt ((X.setRow (s + 1 + 1) a.ar).setRow (s + 1 + 1 + 1) (Vd.mk 2 0 0).ar) (s + 1 + 1 + 1) (Vd.mk 2 0 0)) := HYQ.out.setRow' _
    exact bodyPost_ret (results_at8 rfl _ _ (s + 1 + 1) (s + 1 + 1 + 1) a (Vd.mk 2 0 0) rfl rfl HFA.out HFV.out) rfl ⟨⟨a, rfl, AtO.below HAT.out HBF.out, rfl⟩, HBF.out⟩)
end Go.Proofs.YtkcojblflebomaaGreat
