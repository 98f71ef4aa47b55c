/-
  Several texts in one.
-/
import Derived.Test.YtkcojblflebomaaGreatNR46
set_option linter.unusedVariables false
set_option linter.unusedSimpArgs false
namespace Go.Proofs.YtkcojblflebomaaGreat
open Go.RowKit Go.MapKept Go.Shelf
open Go.Lib hiding intOf
open Go.Sort hiding Below

set_option maxRecDepth 100000 in
set_option maxHeartbeats 16000000 in
theorem rone_ltake (a : Atr) (f : UInt8) (t b : Nat) (v : ByteArray) (four internal : Bool) (w : World) (base : Nat) (hbs : base ≤ w.heap.size) (ha : AtO w base a) (hv : v.size ≤ 1048576) (z14 : ((t : Int) == 14) = false) (z15 : ((t : Int) == 15) = false) (hbt : bitsV t = b) (zb0 : ((b : Int) == 0) = false) (RES : AtC) (htk : (∀ W : World, base ≤ W.heap.size → AtO W base a → Calls Tryz.prog 91 #[.agg a.ar, .agg #[.int .u8 f.toNat, .int .u8 (t : Nat), .string v], .bool four] W fun e w' => (∃ a' : Atr, e = .returned (.tuple #[.agg a'.ar, .bool true])) ∧ Below W.heap.size W w')) (hls : (∀ W : World, base ≤ W.heap.size → AtO W base a → Calls Tryz.prog 92 #[.agg a.ar, .agg #[.int .u8 f.toNat, .int .u8 (t : Nat), .string v]] W fun e w' => (∃ a' : Atr, e = .returned (.tuple #[.agg a'.ar, .bool true]) ∧ AtO w' base a' ∧ a'.c = RES) ∧ Below W.heap.size W w')) (hin : internal = true ∨ (internal = false ∧ ((t : Int) == 5) = false ∧ ((t : Int) == 9) = false ∧ ((t : Int) == 10) = false)) (hl : ((t : Int) == 8) = true ∨ (((t : Int) == 8) = false ∧ ((t : Int) == 10) = true) ∨ (((t : Int) == 8) = false ∧ ((t : Int) == 10) = false ∧ ((t : Int) == 16) = true) ∨ (((t : Int) == 8) = false ∧ ((t : Int) == 10) = false ∧ ((t : Int) == 16) = false ∧ ((t : Int) == 32) = true)) (hf : ((f &&& 192).toNat : Int) = (b : Int)) :
    Calls Tryz.prog 41 #[.agg a.ar, .agg #[.int .u8 f.toNat, .int .u8 (t : Nat), .string v], .bool four, .bool internal] w fun e w' => OnePost base RES (Vd.mk 0 0 0) w' e ∧ Below w.heap.size w w' := by
  have HAT := Lib.hid ha
  have HBT : Hid (∀ W, Calls Tryz.prog 90 #[.int .u8 (t : Nat)] W fun e w' => e = .returned (.int .u8 (b : Nat)) ∧ w' = W) := fun W => by
    have h := rbits_any t W
    rwa [hbt] at h
  clear hbt
  have HTK := Lib.hid htk
  have HLS := Lib.hid hls
  clear htk hls
  have z192 := and192 f
  have zb : (((f &&& 192).toNat : Int) == (b : Int)) = true := beq_iff_eq.2 hf
  have zb' : (((f &&& 192).toNat : Int) != (b : Int)) = false := by rw [bne, zb]; rfl
  generalize (f &&& 192).toNat = q8 at z192 zb zb'
  clear hf
  rcases hl with z8 | ⟨z8, y10⟩ | ⟨z8, y10, z16⟩ | ⟨z8, y10, z16, z32⟩ <;> rcases hin with rfl | ⟨rfl, z5, z9, z10⟩
  all_goals try (exact absurd (z10.symm.trans y10) (by decide))
  all_goals (
    go_enter Tryz.func41, Tryz.ntmps41
    go_upto_region 1 with fail
    refine wp_name fun V hV => ?_
    obtain ⟨s, hs⟩ : ∃ s, s = w.heap.size := ⟨_, rfl⟩
    have HC : Hid (CellsAt V s a.ar 40) := by rw [hV, hs]; exact (((CellsAt.new _ _ _).alloc _).alloc _).alloc _
    have HR : Hid (CellsAt V (s + 1) #[.int .u8 f.toNat, .int .u8 (t : Nat), .string v] 32) := by rw [hV, hs]; exact (new2 _ _ _ _ _).alloc _
    have HZ : Hid (CellsAt V (s + 1 + 1) noAtr.ar 40) := by rw [hV, hs]; exact (new3 _ _ _ _ _).alloc _
    have HY : Hid (CellsAt V (s + 1 + 1 + 1) #[.int .i64 0, .int .u8 0, .int .u8 0] 42) := by rw [hV, hs]; exact new4 _ _ _ _ _ _
    have HB : Hid (Below w.heap.size w V) := by rw [hV]; exact (below3 _ _ _ _).alloc (below3 _ _ _ _).size _
    have HS : Hid (s = w.heap.size) := hs
    rw [← hs] at hbs ⊢
    clear hV hs ha
    obtain ⟨r0, r1, r2⟩ := CellsAt.c3 HR.out
    go_wp2_with fail
    refine (HBT.out _).mono ?_
    rintro e w2 ⟨rfl, hw2⟩
    subst w2
    have HRd : Hid (CellsAt V.drew (s + 1) #[.int .u8 f.toNat, .int .u8 (t : Nat), .string v] 32) := HR.out.drew 1
    have HCd : Hid (CellsAt V.drew s a.ar 40) := HC.out.drew 1
    have HZd : Hid (CellsAt V.drew (s + 1 + 1) noAtr.ar 40) := HZ.out.drew 1
    have HYd : Hid (CellsAt V.drew (s + 1 + 1 + 1) #[.int .i64 0, .int .u8 0, .int .u8 0] 42) := HY.out.drew 1
    have HBd : Hid (Below w.heap.size w V.drew) := below_drewN HB.out 1
    obtain ⟨d0, d1, d2⟩ := CellsAt.c3 HRd.out
    go_upto_region 9 with fail
    refine wp_region_held_drew (S := fun w' => w' = V.drew) (by kernel_rfl) (rfl) (fun hHeld => ?_)
    refine wpAnyH_take (i := 0) (oi := { dst := some 53, op := Op.fieldAddr 32 (Operand.tmp 5) 0, type := 0, pos := "ref.go:378", after := #[], guard := none }) (v := ?_) rfl (by kernel_rfl) (by kernel_rfl) (by kernel_rfl) (fun _ _ _ h => h) (Or.inl ⟨by rfl, ?_⟩) hHeld ?_
    rotate_left
    · intro w hSw
      clear hSw
      go_simp
      try with_reducible rfl
    try simp only [Act.put, List.setIfInBounds_toArray, List.set_cons_zero, List.set_cons_succ]
    refine wpAnyH_take (i := 1) (oi := { dst := some 54, op := Op.load 5 (Operand.tmp 53), type := 5, pos := "ref.go:378", after := #[{ on := 0, ground := Ground.data }], guard := none }) (v := ?_) rfl (by kernel_rfl) (by kernel_rfl) (by kernel_rfl) (fun _ _ _ h => h) (Or.inl ⟨by rfl, ?_⟩) hHeld ?_
    rotate_left
    · intro w hSw
      obtain rfl := hSw
      go_simp
      try with_reducible rfl
    try simp only [Act.put, List.setIfInBounds_toArray, List.set_cons_zero, List.set_cons_succ]
    refine wpAnyH_take (i := 2) (oi := { dst := some 55, op := Op.binOp BinOp.and 5 (Operand.tmp 54) (Operand.const (Value.int IntKind.u8 192)) 5, type := 5, pos := "ref.go:378", after := #[{ on := 1, ground := Ground.data }], guard := none }) (v := ?_) rfl (by kernel_rfl) (by kernel_rfl) (by kernel_rfl) (fun _ _ _ h => h) (Or.inl ⟨by rfl, ?_⟩) hHeld ?_
    rotate_left
    · intro w hSw
      clear hSw
      go_simp
      try with_reducible rfl
    try simp only [Act.put, List.setIfInBounds_toArray, List.set_cons_zero, List.set_cons_succ]
    refine wpAnyH_take (i := 3) (oi := { dst := some 56, op := Op.fieldAddr 32 (Operand.tmp 5) 1, type := 0, pos := "ref.go:378", after := #[], guard := none }) (v := ?_) rfl (by kernel_rfl) (by kernel_rfl) (by kernel_rfl) (fun _ _ _ h => h) (Or.inl ⟨by rfl, ?_⟩) hHeld ?_
    rotate_left
    · intro w hSw
      clear hSw
      go_simp
      try with_reducible rfl
    try simp only [Act.put, List.setIfInBounds_toArray, List.set_cons_zero, List.set_cons_succ]
    refine wpAnyH_take (i := 4) (oi := { dst := some 57, op := Op.load 5 (Operand.tmp 56), type := 5, pos := "ref.go:378", after := #[{ on := 3, ground := Ground.data }], guard := none }) (v := ?_) rfl (by kernel_rfl) (by kernel_rfl) (by kernel_rfl) (fun _ _ _ h => h) (Or.inl ⟨by rfl, ?_⟩) hHeld ?_
    rotate_left
    · intro w hSw
      obtain rfl := hSw
      go_simp
      try with_reducible rfl
    try simp only [Act.put, List.setIfInBounds_toArray, List.set_cons_zero, List.set_cons_succ]
    refine wpAnyH_ready (rs := [5]) (by kernel_rfl) (by simp) ?_
    refine AllReadyH.cons (o := { dst := some 58, op := Op.call { callee := Callee.value (Operand.func 90), args := #[Operand.tmp 57], argTypes := #[5] }, type := 5, pos := "ref.go:378", after := #[{ on := 4, ground := Ground.data }], guard := none }) rfl (fun K hK => ?_) AllReadyH.nil
    go_simp
    refine (HBT.out _).mono ?_
    rintro e w2 ⟨rfl, hw2⟩
    subst w2
    refine hK.out _ _ (hHeld) (fun hHeld => ?_)
    clear hK K
    try simp only [Act.put, List.setIfInBounds_toArray, List.set_cons_zero, List.set_cons_succ]
    refine wpAnyH_take (i := 6) (oi := { dst := some 59, op := Op.binOp BinOp.neq 5 (Operand.tmp 55) (Operand.tmp 58) 5, type := 4, pos := "ref.go:378", after := #[{ on := 2, ground := Ground.data }, { on := 5, ground := Ground.data }], guard := none }) (v := ?_) rfl (by kernel_rfl) (by kernel_rfl) (by kernel_rfl) (fun _ _ _ h => h) (Or.inl ⟨by rfl, ?_⟩) hHeld ?_
    rotate_left
    · intro w hSw
      clear hSw
      go_simp
      try with_reducible rfl
    try simp only [Act.put, List.setIfInBounds_toArray, List.set_cons_zero, List.set_cons_succ]
    refine wpAnyH_done (by kernel_rfl) ?_ _
    go_wp2_with (with_reducible show wpList _ _ _ (_ :: _) _ _; refine wpList_load_attrs rfl (.tmp 4) rfl s rfl a HCd.out ?_)
    refine (HTK.out _ (Nat.le_trans hbs (by have := HBd.out.size; have := HS.out; omega)) (AtO.below HAT.out HBd.out)).mono ?_
    rintro e w1 ⟨⟨a2, rfl⟩, hb⟩
    have HC1 : Hid (CellsAt w1 s a.ar 40) := HCd.out.below hb HCd.out.lt
    have HR1 : Hid (CellsAt w1 (s + 1) #[.int .u8 f.toNat, .int .u8 (t : Nat), .string v] 32) := HRd.out.below hb HRd.out.lt
    have HZ1 : Hid (CellsAt w1 (s + 1 + 1) noAtr.ar 40) := HZd.out.below hb HZd.out.lt
    have HY1 : Hid (CellsAt w1 (s + 1 + 1 + 1) #[.int .i64 0, .int .u8 0, .int .u8 0] 42) := HYd.out.below hb HYd.out.lt
    have HB1 : Hid (Below w.heap.size w w1) := HBd.out.trans (hb.mono HBd.out.size)
    have HN : Hid (∀ cs : Array Value, CellsAt (w1.alloc (.cells cs 40)) w1.heap.size cs 40) := fun cs => CellsAt.new _ _ _
    have hw1 := HY1.out.lt
    clear hb d0 d1 d2 r0 r1 r2
    go_upto_region 12 with (with_reducible show wpList _ _ _ (_ :: _) _ _; refine wpList_store_attrs rfl (.tmp 10) (.tmp 67) rfl w1.heap.size rfl a2 rfl noAtr (HN.out _) ?_)
    refine wp_name fun X hX => ?_
    obtain ⟨gb, hgb⟩ : ∃ gb, gb = w1.heap.size := ⟨_, rfl⟩
    have HBX : Hid (Below w1.heap.size w1 X) := by rw [hX]; exact ((Below.refl _ _).alloc (Nat.le_refl _) _).grown (grown_setRow' _ _ _) (by simp) (fun k hk => by cases hk; exact Nat.le_refl _)
    have HGX : Hid (CellsAt X gb a2.ar 40) := by rw [hX, hgb]; exact (HN.out _).setRow' _
    rw [← hgb] at hw1 ⊢
    have HCX : Hid (CellsAt X s a.ar 40) := HC1.out.below HBX.out HC1.out.lt
    have HRX : Hid (CellsAt X (s + 1) #[.int .u8 f.toNat, .int .u8 (t : Nat), .string v] 32) := HR1.out.below HBX.out HR1.out.lt
    have HZX : Hid (CellsAt X (s + 1 + 1) noAtr.ar 40) := HZ1.out.below HBX.out HZ1.out.lt
    have HYX : Hid (CellsAt X (s + 1 + 1 + 1) #[.int .i64 0, .int .u8 0, .int .u8 0] 42) := HY1.out.below HBX.out HY1.out.lt
    have HB2 : Hid (Below w.heap.size w X) := HB1.out.trans (HBX.out.mono HB1.out.size)
    clear hX hgb
    obtain ⟨x0, x1, x2⟩ := CellsAt.c3 HRX.out
    have hgs : s + 1 + 1 + 1 < gb := hw1
    have HGS : Hid (s + 1 + 1 + 1 < gb) := hgs
    go_wp2_with (with_reducible show wpList _ _ _ (_ :: _) _ _; refine wpList_load_attrs rfl (.tmp 4) rfl s rfl a HCX.out ?_)
    refine (HLS.out _ (Nat.le_trans hbs (by have := HB2.out.size; have := HS.out; omega)) (AtO.below HAT.out HB2.out)).mono ?_
    rintro e y ⟨⟨a3, rfl, ho3, hc3⟩, hb⟩
    have HCy : Hid (CellsAt y s a.ar 40) := HCX.out.below hb HCX.out.lt
    have HRy : Hid (CellsAt y (s + 1) #[.int .u8 f.toNat, .int .u8 (t : Nat), .string v] 32) := HRX.out.below hb HRX.out.lt
    have HZy : Hid (CellsAt y (s + 1 + 1) noAtr.ar 40) := HZX.out.below hb HZX.out.lt
    have HYy : Hid (CellsAt y (s + 1 + 1 + 1) #[.int .i64 0, .int .u8 0, .int .u8 0] 42) := HYX.out.below hb HYX.out.lt
    have HGy : Hid (CellsAt y gb a2.ar 40) := HGX.out.below hb HGX.out.lt
    have HBy : Hid (Below w.heap.size w y) := HB2.out.trans (hb.mono HB2.out.size)
    have HOy : Hid (AtO y base a3) := ho3
    clear hb ho3 x0 x1 x2 HCX HRX HZX HYX HGX HB2
    go_upto_region 14 with (with_reducible show wpList _ _ _ (_ :: _) _ _; refine wpList_store_attrs rfl (.tmp 10) (.tmp 91) rfl gb rfl a3 rfl a2 HGy.out ?_)
    refine wp_name fun X hX => ?_
    have HG : Hid (y.grownBy X (some gb)) := by rw [hX]; exact grown_setRow' _ _ _
    have HGX : Hid (CellsAt X gb a3.ar 40) := by rw [hX]; exact HGy.out.setRow' _
    have HCX : Hid (CellsAt X s a.ar 40) := HCy.out.row HG.out (by have := HGS.out; omega)
    have HRX : Hid (CellsAt X (s + 1) #[.int .u8 f.toNat, .int .u8 (t : Nat), .string v] 32) := HRy.out.row HG.out (by have := HGS.out; omega)
    have HZX : Hid (CellsAt X (s + 1 + 1) noAtr.ar 40) := HZy.out.row HG.out (by have := HGS.out; omega)
    have HYX : Hid (CellsAt X (s + 1 + 1 + 1) #[.int .i64 0, .int .u8 0, .int .u8 0] 42) := HYy.out.row HG.out (by have := HGS.out; omega)
    have HB2 : Hid (Below w.heap.size w X) := HBy.out.grown HG.out HBy.out.size (fun k hk => by cases hk; have := HGS.out; have := HS.out; omega)
    have HO3 : Hid (AtO X base a3) := AtO.off' HOy.out HG.out HGy.out (by decide) (by decide) (by decide) (by decide)
    clear hX HCy HRy HZy HYy HGy HBy HOy HG
    obtain ⟨x0, x1, x2⟩ := CellsAt.c3 HRX.out
    have HYQ : Hid (CellsAt (X.setRow (s + 1 + 1) a3.ar) (s + 1 + 1 + 1) #[.int .i64 (Vd.mk 0 0 0).act, .int .u8 (Vd.mk 0 0 0).code, .int .u8 (Vd.mk 0 0 0).sub] 42) := (setRow_other _ _ _ _ (by omega)).trans HYX.out
    go_wp2_with (with_reducible show wpList _ _ _ (_ :: _) _ _; first | refine wpList_load_attrs rfl (.tmp 10) rfl gb rfl a3 HGX.out ?_ | refine wpList_store_attrs rfl (.tmp 8) (.tmp 94) rfl (s + 1 + 1) rfl a3 rfl noAtr HZX.out ?_ | refine wpList_store_verdict rfl (.tmp 9) (.tmp 95) rfl (s + 1 + 1 + 1) rfl (Vd.mk 0 0 0) rfl (Vd.mk 0 0 0) HYQ.out ?_)
    have HO4 : Hid (AtO (X.setRow (s + 1 + 1) a3.ar) base a3) := AtO.off' HO3.out (grown_setRow' _ _ _) HZX.out (by decide) (by decide) (by decide) (by decide)
    have HO5 : Hid (AtO ((X.setRow (s + 1 + 1) a3.ar).setRow (s + 1 + 1 + 1) (Vd.mk 0 0 0).ar) base a3) := AtO.off' HO4.out (grown_setRow' _ _ _) HYQ.out (by decide) (by decide) (by decide) (by decide)
    have HG1 : Hid (Below w.heap.size w (X.setRow (s + 1 + 1) a3.ar)) := HB2.out.grown (grown_setRow' _ _ _) HB2.out.size (fun k hk => by cases hk; have := HS.out; omega)
    have HBF : Hid (Below w.heap.size w ((X.setRow (s + 1 + 1) a3.ar).setRow (s + 1 + 1 + 1) (Vd.mk 0 0 0).ar)) := HG1.out.grown (grown_setRow' _ _ _) HG1.out.size (fun k hk => by cases hk; have := HS.out; omega)
    have HFA : Hid (CellsAt ((X.setRow (s + 1 + 1) a3.ar).setRow (s + 1 + 1 + 1) (Vd.mk 0 0 0).ar) (s + 1 + 1) a3.ar 40) := (setRow_other _ _ _ _ (by omega)).trans (HZX.out.setRow' _)
    have HFV : Hid (VdAt ((X.setRow (s + 1 + 1) a3.ar).setRow (s + 1 + 1 + 1) (Vd.mk 0 0 0).ar) (s + 1 + 1 + 1) (Vd.mk 0 0 0)) := HYQ.out.setRow' _
    exact bodyPost_ret (results_at8 rfl _ _ (s + 1 + 1) (s + 1 + 1 + 1) a3 (Vd.mk 0 0 0) rfl rfl HFA.out HFV.out) rfl ⟨⟨a3, rfl, HO5.out, hc3⟩, HBF.out⟩)
end Go.Proofs.YtkcojblflebomaaGreat
set_option linter.unusedVariables false
set_option linter.unusedSimpArgs false
namespace Go.Proofs.YtkcojblflebomaaGreat
open Go.RowKit Go.MapKept Go.Shelf
open Go.Lib hiding intOf
open Go.Sort hiding Below

set_option maxRecDepth 100000 in
set_option maxHeartbeats 16000000 in
theorem rone_lno (a : Atr) (f : UInt8) (t b : Nat) (v : ByteArray) (four internal : Bool) (w : World) (base : Nat) (hbs : base ≤ w.heap.size) (ha : AtO w base a) (hv : v.size ≤ 1048576) (z14 : ((t : Int) == 14) = false) (z15 : ((t : Int) == 15) = false) (hbt : bitsV t = b) (zb0 : ((b : Int) == 0) = false) (htk : (∀ W : World, base ≤ W.heap.size → AtO W base a → Calls Tryz.prog 91 #[.agg a.ar, .agg #[.int .u8 f.toNat, .int .u8 (t : Nat), .string v], .bool four] W fun e w' => (∃ a' : Atr, e = .returned (.tuple #[.agg a'.ar, .bool true])) ∧ Below W.heap.size W w')) (hls : (∀ W : World, base ≤ W.heap.size → AtO W base a → Calls Tryz.prog 92 #[.agg a.ar, .agg #[.int .u8 f.toNat, .int .u8 (t : Nat), .string v]] W fun e w' => (∃ a' : Atr, e = .returned (.tuple #[.agg a'.ar, .bool false])) ∧ Below W.heap.size W w')) (hin : internal = true ∨ (internal = false ∧ ((t : Int) == 5) = false ∧ ((t : Int) == 9) = false ∧ ((t : Int) == 10) = false)) (hl : ((t : Int) == 8) = true ∨ (((t : Int) == 8) = false ∧ ((t : Int) == 10) = true) ∨ (((t : Int) == 8) = false ∧ ((t : Int) == 10) = false ∧ ((t : Int) == 16) = true) ∨ (((t : Int) == 8) = false ∧ ((t : Int) == 10) = false ∧ ((t : Int) == 16) = false ∧ ((t : Int) == 32) = true)) (z6 : ((t : Int) == 6) = false) (z7 : ((t : Int) == 7) = false) (hf : ((f &&& 192).toNat : Int) = (b : Int)) :
    Calls Tryz.prog 41 #[.agg a.ar, .agg #[.int .u8 f.toNat, .int .u8 (t : Nat), .string v], .bool four, .bool internal] w fun e w' => OnePost base a.c (Vd.mk 2 0 0) w' e ∧ Below w.heap.size w w' := by
  have HAT := Lib.hid ha
  have HBT : Hid (∀ W, Calls Tryz.prog 90 #[.int .u8 (t : Nat)] W fun e w' => e = .returned (.int .u8 (b : Nat)) ∧ w' = W) := fun W => by
    have h := rbits_any t W
    rwa [hbt] at h
  clear hbt
  have HTK := Lib.hid htk
  have HLS := Lib.hid hls
  clear htk hls
  have z192 := and192 f
  have zb : (((f &&& 192).toNat : Int) == (b : Int)) = true := beq_iff_eq.2 hf
  have zb' : (((f &&& 192).toNat : Int) != (b : Int)) = false := by rw [bne, zb]; rfl
  generalize (f &&& 192).toNat = q8 at z192 zb zb'
  clear hf
  rcases hl with z8 | ⟨z8, y10⟩ | ⟨z8, y10, z16⟩ | ⟨z8, y10, z16, z32⟩ <;> rcases hin with rfl | ⟨rfl, z5, z9, z10⟩
  all_goals try (exact absurd (z10.symm.trans y10) (by decide))
  all_goals (
    go_enter Tryz.func41, Tryz.ntmps41
    go_upto_region 1 with fail
    refine wp_name fun V hV => ?_
    obtain ⟨s, hs⟩ : ∃ s, s = w.heap.size := ⟨_, rfl⟩
    have HC : Hid (CellsAt V s a.ar 40) := by rw [hV, hs]; exact (((CellsAt.new _ _ _).alloc _).alloc _).alloc _
    have HR : Hid (CellsAt V (s + 1) #[.int .u8 f.toNat, .int .u8 (t : Nat), .string v] 32) := by rw [hV, hs]; exact (new2 _ _ _ _ _).alloc _
    have HZ : Hid (CellsAt V (s + 1 + 1) noAtr.ar 40) := by rw [hV, hs]; exact (new3 _ _ _ _ _).alloc _
    have HY : Hid (CellsAt V (s + 1 + 1 + 1) #[.int .i64 0, .int .u8 0, .int .u8 0] 42) := by rw [hV, hs]; exact new4 _ _ _ _ _ _
    have HB : Hid (Below w.heap.size w V) := by rw [hV]; exact (below3 _ _ _ _).alloc (below3 _ _ _ _).size _
    have HS : Hid (s = w.heap.size) := hs
    rw [← hs] at hbs ⊢
    clear hV hs ha
    obtain ⟨r0, r1, r2⟩ := CellsAt.c3 HR.out
    go_wp2_with fail
    refine (HBT.out _).mono ?_
    rintro e w2 ⟨rfl, hw2⟩
    subst w2
    have HRd : Hid (CellsAt V.drew (s + 1) #[.int .u8 f.toNat, .int .u8 (t : Nat), .string v] 32) := HR.out.drew 1
    have HCd : Hid (CellsAt V.drew s a.ar 40) := HC.out.drew 1
    have HZd : Hid (CellsAt V.drew (s + 1 + 1) noAtr.ar 40) := HZ.out.drew 1
    have HYd : Hid (CellsAt V.drew (s + 1 + 1 + 1) #[.int .i64 0, .int .u8 0, .int .u8 0] 42) := HY.out.drew 1
    have HBd : Hid (Below w.heap.size w V.drew) := below_drewN HB.out 1
    obtain ⟨d0, d1, d2⟩ := CellsAt.c3 HRd.out
    go_upto_region 9 with fail
    refine wp_region_held_drew (S := fun w' => w' = V.drew) (by kernel_rfl) (rfl) (fun hHeld => ?_)
    refine wpAnyH_take (i := 0) (oi := { dst := some 53, op := Op.fieldAddr 32 (Operand.tmp 5) 0, type := 0, pos := "ref.go:378", after := #[], guard := none }) (v := ?_) rfl (by kernel_rfl) (by kernel_rfl) (by kernel_rfl) (fun _ _ _ h => h) (Or.inl ⟨by rfl, ?_⟩) hHeld ?_
    rotate_left
    · intro w hSw
      clear hSw
      go_simp
      try with_reducible rfl
    try simp only [Act.put, List.setIfInBounds_toArray, List.set_cons_zero, List.set_cons_succ]
    refine wpAnyH_take (i := 1) (oi := { dst := some 54, op := Op.load 5 (Operand.tmp 53), type := 5, pos := "ref.go:378", after := #[{ on := 0, ground := Ground.data }], guard := none }) (v := ?_) rfl (by kernel_rfl) (by kernel_rfl) (by kernel_rfl) (fun _ _ _ h => h) (Or.inl ⟨by rfl, ?_⟩) hHeld ?_
    rotate_left
    · intro w hSw
      obtain rfl := hSw
      go_simp
      try with_reducible rfl
    try simp only [Act.put, List.setIfInBounds_toArray, List.set_cons_zero, List.set_cons_succ]
    refine wpAnyH_take (i := 2) (oi := { dst := some 55, op := Op.binOp BinOp.and 5 (Operand.tmp 54) (Operand.const (Value.int IntKind.u8 192)) 5, type := 5, pos := "ref.go:378", after := #[{ on := 1, ground := Ground.data }], guard := none }) (v := ?_) rfl (by kernel_rfl) (by kernel_rfl) (by kernel_rfl) (fun _ _ _ h => h) (Or.inl ⟨by rfl, ?_⟩) hHeld ?_
    rotate_left
    · intro w hSw
      clear hSw
      go_simp
      try with_reducible rfl
    try simp only [Act.put, List.setIfInBounds_toArray, List.set_cons_zero, List.set_cons_succ]
    refine wpAnyH_take (i := 3) (oi := { dst := some 56, op := Op.fieldAddr 32 (Operand.tmp 5) 1, type := 0, pos := "ref.go:378", after := #[], guard := none }) (v := ?_) rfl (by kernel_rfl) (by kernel_rfl) (by kernel_rfl) (fun _ _ _ h => h) (Or.inl ⟨by rfl, ?_⟩) hHeld ?_
    rotate_left
    · intro w hSw
      clear hSw
      go_simp
      try with_reducible rfl
    try simp only [Act.put, List.setIfInBounds_toArray, List.set_cons_zero, List.set_cons_succ]
    refine wpAnyH_take (i := 4) (oi := { dst := some 57, op := Op.load 5 (Operand.tmp 56), type := 5, pos := "ref.go:378", after := #[{ on := 3, ground := Ground.data }], guard := none }) (v := ?_) rfl (by kernel_rfl) (by kernel_rfl) (by kernel_rfl) (fun _ _ _ h => h) (Or.inl ⟨by rfl, ?_⟩) hHeld ?_
    rotate_left
    · intro w hSw
      obtain rfl := hSw
      go_simp
      try with_reducible rfl
    try simp only [Act.put, List.setIfInBounds_toArray, List.set_cons_zero, List.set_cons_succ]
    refine wpAnyH_ready (rs := [5]) (by kernel_rfl) (by simp) ?_
    refine AllReadyH.cons (o := { dst := some 58, op := Op.call { callee := Callee.value (Operand.func 90), args := #[Operand.tmp 57], argTypes := #[5] }, type := 5, pos := "ref.go:378", after := #[{ on := 4, ground := Ground.data }], guard := none }) rfl (fun K hK => ?_) AllReadyH.nil
    go_simp
    refine (HBT.out _).mono ?_
    rintro e w2 ⟨rfl, hw2⟩
    subst w2
    refine hK.out _ _ (hHeld) (fun hHeld => ?_)
    clear hK K
    try simp only [Act.put, List.setIfInBounds_toArray, List.set_cons_zero, List.set_cons_succ]
    refine wpAnyH_take (i := 6) (oi := { dst := some 59, op := Op.binOp BinOp.neq 5 (Operand.tmp 55) (Operand.tmp 58) 5, type := 4, pos := "ref.go:378", after := #[{ on := 2, ground := Ground.data }, { on := 5, ground := Ground.data }], guard := none }) (v := ?_) rfl (by kernel_rfl) (by kernel_rfl) (by kernel_rfl) (fun _ _ _ h => h) (Or.inl ⟨by rfl, ?_⟩) hHeld ?_
    rotate_left
    · intro w hSw
      clear hSw
      go_simp
      try with_reducible rfl
    try simp only [Act.put, List.setIfInBounds_toArray, List.set_cons_zero, List.set_cons_succ]
    refine wpAnyH_done (by kernel_rfl) ?_ _
    go_wp2_with (with_reducible show wpList _ _ _ (_ :: _) _ _; refine wpList_load_attrs rfl (.tmp 4) rfl s rfl a HCd.out ?_)
    refine (HTK.out _ (Nat.le_trans hbs (by have := HBd.out.size; have := HS.out; omega)) (AtO.below HAT.out HBd.out)).mono ?_
    rintro e w1 ⟨⟨a2, rfl⟩, hb⟩
    have HC1 : Hid (CellsAt w1 s a.ar 40) := HCd.out.below hb HCd.out.lt
    have HR1 : Hid (CellsAt w1 (s + 1) #[.int .u8 f.toNat, .int .u8 (t : Nat), .string v] 32) := HRd.out.below hb HRd.out.lt
    have HZ1 : Hid (CellsAt w1 (s + 1 + 1) noAtr.ar 40) := HZd.out.below hb HZd.out.lt
    have HY1 : Hid (CellsAt w1 (s + 1 + 1 + 1) #[.int .i64 0, .int .u8 0, .int .u8 0] 42) := HYd.out.below hb HYd.out.lt
    have HB1 : Hid (Below w.heap.size w w1) := HBd.out.trans (hb.mono HBd.out.size)
    have HN : Hid (∀ cs : Array Value, CellsAt (w1.alloc (.cells cs 40)) w1.heap.size cs 40) := fun cs => CellsAt.new _ _ _
    have hw1 := HY1.out.lt
    clear hb d0 d1 d2 r0 r1 r2
    go_upto_region 12 with (with_reducible show wpList _ _ _ (_ :: _) _ _; refine wpList_store_attrs rfl (.tmp 10) (.tmp 67) rfl w1.heap.size rfl a2 rfl noAtr (HN.out _) ?_)
    refine wp_name fun X hX => ?_
    obtain ⟨gb, hgb⟩ : ∃ gb, gb = w1.heap.size := ⟨_, rfl⟩
    have HBX : Hid (Below w1.heap.size w1 X) := by rw [hX]; exact ((Below.refl _ _).alloc (Nat.le_refl _) _).grown (grown_setRow' _ _ _) (by simp) (fun k hk => by cases hk; exact Nat.le_refl _)
    have HGX : Hid (CellsAt X gb a2.ar 40) := by rw [hX, hgb]; exact (HN.out _).setRow' _
    rw [← hgb] at hw1 ⊢
    have HCX : Hid (CellsAt X s a.ar 40) := HC1.out.below HBX.out HC1.out.lt
    have HRX : Hid (CellsAt X (s + 1) #[.int .u8 f.toNat, .int .u8 (t : Nat), .string v] 32) := HR1.out.below HBX.out HR1.out.lt
    have HZX : Hid (CellsAt X (s + 1 + 1) noAtr.ar 40) := HZ1.out.below HBX.out HZ1.out.lt
    have HYX : Hid (CellsAt X (s + 1 + 1 + 1) #[.int .i64 0, .int .u8 0, .int .u8 0] 42) := HY1.out.below HBX.out HY1.out.lt
    have HB2 : Hid (Below w.heap.size w X) := HB1.out.trans (HBX.out.mono HB1.out.size)
    clear hX hgb
    obtain ⟨x0, x1, x2⟩ := CellsAt.c3 HRX.out
    have hgs : s + 1 + 1 + 1 < gb := hw1
    have HGS : Hid (s + 1 + 1 + 1 < gb) := hgs
    go_wp2_with (with_reducible show wpList _ _ _ (_ :: _) _ _; refine wpList_load_attrs rfl (.tmp 4) rfl s rfl a HCX.out ?_)
    refine (HLS.out _ (Nat.le_trans hbs (by have := HB2.out.size; have := HS.out; omega)) (AtO.below HAT.out HB2.out)).mono ?_
    rintro e y ⟨⟨a3, rfl⟩, hb⟩
    have HCy : Hid (CellsAt y s a.ar 40) := HCX.out.below hb HCX.out.lt
    have HRy : Hid (CellsAt y (s + 1) #[.int .u8 f.toNat, .int .u8 (t : Nat), .string v] 32) := HRX.out.below hb HRX.out.lt
    have HZy : Hid (CellsAt y (s + 1 + 1) noAtr.ar 40) := HZX.out.below hb HZX.out.lt
    have HYy : Hid (CellsAt y (s + 1 + 1 + 1) #[.int .i64 0, .int .u8 0, .int .u8 0] 42) := HYX.out.below hb HYX.out.lt
    have HGy : Hid (CellsAt y gb a2.ar 40) := HGX.out.below hb HGX.out.lt
    have HBy : Hid (Below w.heap.size w y) := HB2.out.trans (hb.mono HB2.out.size)
    clear hb x0 x1 x2 HCX HRX HZX HYX HGX HB2
    go_upto_region 14 with (with_reducible show wpList _ _ _ (_ :: _) _ _; refine wpList_store_attrs rfl (.tmp 10) (.tmp 91) rfl gb rfl a3 rfl a2 HGy.out ?_)
    refine wp_name fun X hX => ?_
    have HG : Hid (y.grownBy X (some gb)) := by rw [hX]; exact grown_setRow' _ _ _
    have HGX : Hid (CellsAt X gb a3.ar 40) := by rw [hX]; exact HGy.out.setRow' _
    have HCX : Hid (CellsAt X s a.ar 40) := HCy.out.row HG.out (by have := HGS.out; omega)
    have HRX : Hid (CellsAt X (s + 1) #[.int .u8 f.toNat, .int .u8 (t : Nat), .string v] 32) := HRy.out.row HG.out (by have := HGS.out; omega)
    have HZX : Hid (CellsAt X (s + 1 + 1) noAtr.ar 40) := HZy.out.row HG.out (by have := HGS.out; omega)
    have HYX : Hid (CellsAt X (s + 1 + 1 + 1) #[.int .i64 0, .int .u8 0, .int .u8 0] 42) := HYy.out.row HG.out (by have := HGS.out; omega)
    have HB2 : Hid (Below w.heap.size w X) := HBy.out.grown HG.out HBy.out.size (fun k hk => by cases hk; have := HGS.out; have := HS.out; omega)
    clear hX HCy HRy HZy HYy HGy HBy HG
    obtain ⟨x0, x1, x2⟩ := CellsAt.c3 HRX.out
    have HYQ : Hid (CellsAt (X.setRow (s + 1 + 1) a.ar) (s + 1 + 1 + 1) #[.int .i64 (Vd.mk 0 0 0).act, .int .u8 (Vd.mk 0 0 0).code, .int .u8 (Vd.mk 0 0 0).sub] 42) := (setRow_other _ _ _ _ (by omega)).trans HYX.out
    go_wp2_with (with_reducible show wpList _ _ _ (_ :: _) _ _; first | refine wpList_load_attrs rfl (.tmp 4) rfl s rfl a HCX.out ?_ | refine wpList_store_attrs rfl (.tmp 8) (.tmp 106) rfl (s + 1 + 1) rfl a rfl noAtr HZX.out ?_ | refine wpList_store_verdict rfl (.tmp 9) (.tmp 107) rfl (s + 1 + 1 + 1) rfl (Vd.mk 2 0 0) rfl (Vd.mk 0 0 0) HYQ.out ?_)
    have HG1 : Hid (Below w.heap.size w (X.setRow (s + 1 + 1) a.ar)) := HB2.out.grown (grown_setRow' _ _ _) HB2.out.size (fun k hk => by cases hk; have := HS.out; omega)
    have HBF : Hid (Below w.heap.size w ((X.setRow (s + 1 + 1) a.ar).setRow (s + 1 + 1 + 1) (Vd.mk 2 0 0).ar)) := HG1.out.grown (grown_setRow' _ _ _) HG1.out.size (fun k hk => by cases hk; have := HS.out; omega)
    have HFA : Hid (CellsAt ((X.setRow (s + 1 + 1) a.ar).setRow (s + 1 + 1 + 1) (Vd.mk 2 0 0).ar) (s + 1 + 1) a.ar 40) := (setRow_other _ _ _ _ (by omega)).trans (HZX.out.setRow' _)
    have HFV : Hid (VdAt ((X.setRow (s + 1 + 1) a.ar).setRow (s + 1 + 1 + 1) (Vd.mk 2 0 0).ar) (s + 1 + 1 + 1) (Vd.mk 2 0 0)) := HYQ.out.setRow' _
    exact bodyPost_ret (results_at8 rfl _ _ (s + 1 + 1) (s + 1 + 1 + 1) a (Vd.mk 2 0 0) rfl rfl HFA.out HFV.out) rfl ⟨⟨a, rfl, AtO.below HAT.out HBF.out, rfl⟩, HBF.out⟩)
end Go.Proofs.YtkcojblflebomaaGreat
