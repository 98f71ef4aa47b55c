/-
  Several texts in one.
-/
import Derived.Test.YtkcojblflebomaaGreatNR44
set_option linter.unusedVariables false
set_option linter.unusedSimpArgs false
namespace Go.Proofs.YtkcojblflebomaaGreat
open Go.RowKit Go.MapKept Go.Shelf
open Go.Lib hiding intOf
open Go.Sort hiding Below

/-- what one attribute read is answered as -/
def OnePost (base : Nat) (c : AtC) (vd : Vd) (w' : World) (e : Ending) : Prop := ∃ a' : Atr, e = .returned (.tuple #[.agg a'.ar, .agg vd.ar]) ∧ AtO w' base a' ∧ a'.c = c
theorem new4 (w : World) (x y z : Obj) (cs : Array Value) (T : TypeId) : CellsAt ((((w.alloc x).alloc y).alloc z).alloc (.cells cs T)) (w.heap.size + 1 + 1 + 1) cs T := by
  have h := CellsAt.new (((w.alloc x).alloc y).alloc z) cs T
  rwa [show (((w.alloc x).alloc y).alloc z).heap.size = w.heap.size + 1 + 1 + 1 by simp] at h
theorem results_at8 {fn : Func} {p q : Tmp} (hf : fn.results = #[.cell p 40, .cell q 42]) (tmps : Array Value) (w : World) (b c : Nat) (a : Atr) (v : Vd) (h6 : tmps.getD p undef = .pointer (some ⟨b, 0, none⟩)) (h7 : tmps.getD q undef = .pointer (some ⟨c, 0, none⟩)) (ha : CellsAt w b a.ar 40) (hv : VdAt w c v) :
    (results fn tmps).run Tryz.prog w = .ok (.tuple #[.agg a.ar, .agg v.ar]) w := by
  obtain ⟨fs, hu⟩ := attrs_under
  obtain ⟨gs, hv2⟩ := verdict_under
  rw [results_cells2' hf, h6, h7]
  simp only [asAddr, Sem.run_pure, Result.andThen_ok]
  rw [run_loadVar_mid w b 0 _ a.ar.toList _ ha.range hu rfl (by rw [attrs_size]; rfl)]
  simp only [Result.andThen_ok]
  rw [run_loadVar_mid w c 0 _ v.ar.toList _ (CellsAt.range hv) hv2 rfl (by rw [verdict_size]; rfl)]
  rfl
set_option maxRecDepth 100000 in
set_option maxHeartbeats 8000000 in
theorem rone_14 (a : Atr) (f : UInt8) (v : ByteArray) (four internal : Bool) (w : World) (base : Nat) (hbs : base ≤ w.heap.size) (ha : AtO w base a) (hv : v.size ≤ 1048576) :
    Calls Tryz.prog 41 #[.agg a.ar, .agg #[.int .u8 f.toNat, .int .u8 14, .string v], .bool four, .bool internal] w fun e w' => OnePost base a.c (Vd.mk 0 0 0) w' e ∧ Below w.heap.size w w' := by
  have HAT := Lib.hid ha
  go_enter Tryz.func41, Tryz.ntmps41
  go_upto_region 1 with fail
  refine wp_name fun V hV => ?_
  obtain ⟨s, hs⟩ : ∃ s, s = w.heap.size := ⟨_, rfl⟩
  have HC : Hid (CellsAt V s a.ar 40) := by rw [hV, hs]; exact (((CellsAt.new _ _ _).alloc _).alloc _).alloc _
  have HR : Hid (CellsAt V (s + 1) #[.int .u8 f.toNat, .int .u8 14, .string v] 32) := by rw [hV, hs]; exact (new2 _ _ _ _ _).alloc _
  have HZ : Hid (CellsAt V (s + 1 + 1) noAtr.ar 40) := by rw [hV, hs]; exact (new3 _ _ _ _ _).alloc _
  have HY : Hid (CellsAt V (s + 1 + 1 + 1) #[.int .i64 0, .int .u8 0, .int .u8 0] 42) := by rw [hV, hs]; exact new4 _ _ _ _ _ _
  have HB : Hid (Below w.heap.size w V) := by rw [hV]; exact (below3 _ _ _ _).alloc (below3 _ _ _ _).size _
  have HS : Hid (s = w.heap.size) := hs
  rw [← hs] at hbs ⊢
  clear hV hs ha
  obtain ⟨r0, r1, r2⟩ := CellsAt.c3 HR.out
  have HYQ : Hid (CellsAt (V.setRow (s + 1 + 1) a.ar) (s + 1 + 1 + 1) #[.int .i64 (Vd.mk 0 0 0).act, .int .u8 (Vd.mk 0 0 0).code, .int .u8 (Vd.mk 0 0 0).sub] 42) := (setRow_other _ _ _ _ (by omega)).trans HY.out
  go_wp2_with (with_reducible show wpList _ _ _ (_ :: _) _ _; first | refine wpList_load_attrs rfl (.tmp 4) rfl s rfl a HC.out ?_ | refine wpList_store_attrs rfl (.tmp 8) (.tmp 20) rfl (s + 1 + 1) rfl a rfl noAtr HZ.out ?_ | refine wpList_store_verdict rfl (.tmp 9) (.tmp 21) rfl (s + 1 + 1 + 1) rfl (Vd.mk 0 0 0) rfl (Vd.mk 0 0 0) HYQ.out ?_)
  have HG1 : Hid (Below w.heap.size w (V.setRow (s + 1 + 1) a.ar)) := HB.out.grown (grown_setRow' _ _ _) HB.out.size (fun k hk => by cases hk; have := HS.out; omega)
  have HBF : Hid (Below w.heap.size w ((V.setRow (s + 1 + 1) a.ar).setRow (s + 1 + 1 + 1) (Vd.mk 0 0 0).ar)) := HG1.out.grown (grown_setRow' _ _ _) HG1.out.size (fun k hk => by cases hk; have := HS.out; omega)
  have HFA : Hid (CellsAt ((V.setRow (s + 1 + 1) a.ar).setRow (s + 1 + 1 + 1) (Vd.mk 0 0 0).ar) (s + 1 + 1) a.ar 40) := (setRow_other _ _ _ _ (by omega)).trans (HZ.out.setRow' _)
  have HFV : Hid (VdAt ((V.setRow (s + 1 + 1) a.ar).setRow (s + 1 + 1 + 1) (Vd.mk 0 0 0).ar) (s + 1 + 1 + 1) (Vd.mk 0 0 0)) := HYQ.out.setRow' _
  exact bodyPost_ret (results_at8 rfl _ _ (s + 1 + 1) (s + 1 + 1 + 1) a (Vd.mk 0 0 0) rfl rfl HFA.out HFV.out) rfl ⟨⟨a, rfl, AtO.below HAT.out HBF.out, rfl⟩, HBF.out⟩
set_option maxRecDepth 100000 in
set_option maxHeartbeats 8000000 in
theorem rone_15 (a : Atr) (f : UInt8) (v : ByteArray) (four internal : Bool) (w : World) (base : Nat) (hbs : base ≤ w.heap.size) (ha : AtO w base a) (hv : v.size ≤ 1048576) :
    Calls Tryz.prog 41 #[.agg a.ar, .agg #[.int .u8 f.toNat, .int .u8 15, .string v], .bool four, .bool internal] w fun e w' => OnePost base a.c (Vd.mk 0 0 0) w' e ∧ Below w.heap.size w w' := by
  have HAT := Lib.hid ha
  go_enter Tryz.func41, Tryz.ntmps41
  go_upto_region 1 with fail
  refine wp_name fun V hV => ?_
  obtain ⟨s, hs⟩ : ∃ s, s = w.heap.size := ⟨_, rfl⟩
  have HC : Hid (CellsAt V s a.ar 40) := by rw [hV, hs]; exact (((CellsAt.new _ _ _).alloc _).alloc _).alloc _
  have HR : Hid (CellsAt V (s + 1) #[.int .u8 f.toNat, .int .u8 15, .string v] 32) := by rw [hV, hs]; exact (new2 _ _ _ _ _).alloc _
  have HZ : Hid (CellsAt V (s + 1 + 1) noAtr.ar 40) := by rw [hV, hs]; exact (new3 _ _ _ _ _).alloc _
  have HY : Hid (CellsAt V (s + 1 + 1 + 1) #[.int .i64 0, .int .u8 0, .int .u8 0] 42) := by rw [hV, hs]; exact new4 _ _ _ _ _ _
  have HB : Hid (Below w.heap.size w V) := by rw [hV]; exact (below3 _ _ _ _).alloc (below3 _ _ _ _).size _
  have HS : Hid (s = w.heap.size) := hs
  rw [← hs] at hbs ⊢
  clear hV hs ha
  obtain ⟨r0, r1, r2⟩ := CellsAt.c3 HR.out
  have HYQ : Hid (CellsAt (V.setRow (s + 1 + 1) a.ar) (s + 1 + 1 + 1) #[.int .i64 (Vd.mk 0 0 0).act, .int .u8 (Vd.mk 0 0 0).code, .int .u8 (Vd.mk 0 0 0).sub] 42) := (setRow_other _ _ _ _ (by omega)).trans HY.out
  go_wp2_with (with_reducible show wpList _ _ _ (_ :: _) _ _; first | refine wpList_load_attrs rfl (.tmp 4) rfl s rfl a HC.out ?_ | refine wpList_store_attrs rfl (.tmp 8) (.tmp 20) rfl (s + 1 + 1) rfl a rfl noAtr HZ.out ?_ | refine wpList_store_verdict rfl (.tmp 9) (.tmp 21) rfl (s + 1 + 1 + 1) rfl (Vd.mk 0 0 0) rfl (Vd.mk 0 0 0) HYQ.out ?_)
  have HG1 : Hid (Below w.heap.size w (V.setRow (s + 1 + 1) a.ar)) := HB.out.grown (grown_setRow' _ _ _) HB.out.size (fun k hk => by cases hk; have := HS.out; omega)
  have HBF : Hid (Below w.heap.size w ((V.setRow (s + 1 + 1) a.ar).setRow (s + 1 + 1 + 1) (Vd.mk 0 0 0).ar)) := HG1.out.grown (grown_setRow' _ _ _) HG1.out.size (fun k hk => by cases hk; have := HS.out; omega)
  have HFA : Hid (CellsAt ((V.setRow (s + 1 + 1) a.ar).setRow (s + 1 + 1 + 1) (Vd.mk 0 0 0).ar) (s + 1 + 1) a.ar 40) := (setRow_other _ _ _ _ (by omega)).trans (HZ.out.setRow' _)
  have HFV : Hid (VdAt ((V.setRow (s + 1 + 1) a.ar).setRow (s + 1 + 1 + 1) (Vd.mk 0 0 0).ar) (s + 1 + 1 + 1) (Vd.mk 0 0 0)) := HYQ.out.setRow' _
  exact bodyPost_ret (results_at8 rfl _ _ (s + 1 + 1) (s + 1 + 1 + 1) a (Vd.mk 0 0 0) rfl rfl HFA.out HFV.out) rfl ⟨⟨a, rfl, AtO.below HAT.out HBF.out, rfl⟩, HBF.out⟩
set_option maxRecDepth 100000 in
set_option maxHeartbeats 8000000 in
theorem rone_none (a : Atr) (f : UInt8) (t : Nat) (v : ByteArray) (four internal : Bool) (w : World) (base : Nat) (hbs : base ≤ w.heap.size) (ha : AtO w base a) (hv : v.size ≤ 1048576) (h14 : t ≠ 14) (h15 : t ≠ 15) (hno : rowF t = none) (hf : f &&& 128 ≠ 0) :
    Calls Tryz.prog 41 #[.agg a.ar, .agg #[.int .u8 f.toNat, .int .u8 (t : Nat), .string v], .bool four, .bool internal] w fun e w' => OnePost base a.c (Vd.mk 0 0 0) w' e ∧ Below w.heap.size w w' := by
  have HAT := Lib.hid ha
  have z14 : ((t : Int) == 14) = false := beq_eq_false_iff_ne.2 (by omega)
  have z15 : ((t : Int) == 15) = false := beq_eq_false_iff_ne.2 (by omega)
  have HBT : Hid (∀ W, Calls Tryz.prog 90 #[.int .u8 (t : Nat)] W fun e w' => e = .returned (.int .u8 0) ∧ w' = W) := fun W => by
    have h := rbits_any t W
    rwa [show bitsV t = 0 by unfold bitsV; rw [hno]] at h
  clear hno h14 h15
  have z128 := and128 f
  have zf : (((f &&& 128).toNat : Int) == 0) = false := beq_eq_false_iff_ne.2 (fun e => hf (UInt8.toNat_inj.1 (by simpa using e)))
  generalize (f &&& 128).toNat = q8 at z128 zf
  clear hf
  go_enter Tryz.func41, Tryz.ntmps41
  go_upto_region 1 with fail
  refine wp_name fun V hV => ?_
  obtain ⟨s, hs⟩ : ∃ s, s = w.heap.size := ⟨_, rfl⟩
  have HC : Hid (CellsAt V s a.ar 40) := by rw [hV, hs]; exact (((CellsAt.new _ _ _).alloc _).alloc _).alloc _
  have HR : Hid (CellsAt V (s + 1) #[.int .u8 f.toNat, .int .u8 (t : Nat), .string v] 32) := by rw [hV, hs]; exact (new2 _ _ _ _ _).alloc _
  have HZ : Hid (CellsAt V (s + 1 + 1) noAtr.ar 40) := by rw [hV, hs]; exact (new3 _ _ _ _ _).alloc _
  have HY : Hid (CellsAt V (s + 1 + 1 + 1) #[.int .i64 0, .int .u8 0, .int .u8 0] 42) := by rw [hV, hs]; exact new4 _ _ _ _ _ _
  have HB : Hid (Below w.heap.size w V) := by rw [hV]; exact (below3 _ _ _ _).alloc (below3 _ _ _ _).size _
  have HS : Hid (s = w.heap.size) := hs
  rw [← hs] at hbs ⊢
  clear hV hs ha
  obtain ⟨r0, r1, r2⟩ := CellsAt.c3 HR.out
  go_wp2_with fail
  refine (HBT.out _).mono ?_
  rintro e w2 ⟨rfl, hw2⟩
  subst w2
  have HYQ : Hid (CellsAt (V.setRow (s + 1 + 1) a.ar) (s + 1 + 1 + 1) #[.int .i64 (Vd.mk 0 0 0).act, .int .u8 (Vd.mk 0 0 0).code, .int .u8 (Vd.mk 0 0 0).sub] 42) := (setRow_other _ _ _ _ (by omega)).trans HY.out
  go_wp2_with (with_reducible show wpList _ _ _ (_ :: _) _ _; first | refine wpList_load_attrs rfl (.tmp 4) rfl s rfl a HC.out ?_ | refine wpList_store_attrs rfl (.tmp 8) (.tmp 32) rfl (s + 1 + 1) rfl a rfl noAtr HZ.out ?_ | refine wpList_store_verdict rfl (.tmp 9) (.tmp 33) rfl (s + 1 + 1 + 1) rfl (Vd.mk 0 0 0) rfl (Vd.mk 0 0 0) HYQ.out ?_)
  have HG1 : Hid (Below w.heap.size w (V.setRow (s + 1 + 1) a.ar)) := HB.out.grown (grown_setRow' _ _ _) HB.out.size (fun k hk => by cases hk; have := HS.out; omega)
  have HBF : Hid (Below w.heap.size w ((V.setRow (s + 1 + 1) a.ar).setRow (s + 1 + 1 + 1) (Vd.mk 0 0 0).ar)) := HG1.out.grown (grown_setRow' _ _ _) HG1.out.size (fun k hk => by cases hk; have := HS.out; omega)
  have HFA : Hid (CellsAt ((V.setRow (s + 1 + 1) a.ar).setRow (s + 1 + 1 + 1) (Vd.mk 0 0 0).ar) (s + 1 + 1) a.ar 40) := (setRow_other _ _ _ _ (by omega)).trans (HZ.out.setRow' _)
  have HFV : Hid (VdAt ((V.setRow (s + 1 + 1) a.ar).setRow (s + 1 + 1 + 1) (Vd.mk 0 0 0).ar) (s + 1 + 1 + 1) (Vd.mk 0 0 0)) := HYQ.out.setRow' _
  exact bodyPost_ret (results_at8 rfl _ _ (s + 1 + 1) (s + 1 + 1 + 1) a (Vd.mk 0 0 0) rfl rfl HFA.out HFV.out) rfl ⟨⟨a, rfl, AtO.below HAT.out HBF.out, rfl⟩, HBF.out⟩
set_option maxRecDepth 100000 in
set_option maxHeartbeats 8000000 in
theorem rone_bad (a : Atr) (f : UInt8) (t : Nat) (v : ByteArray) (four internal : Bool) (w : World) (base : Nat) (hbs : base ≤ w.heap.size) (ha : AtO w base a) (hv : v.size ≤ 1048576) (h14 : t ≠ 14) (h15 : t ≠ 15) (hno : rowF t = none) (hf : f &&& 128 = 0) :
    Calls Tryz.prog 41 #[.agg a.ar, .agg #[.int .u8 f.toNat, .int .u8 (t : Nat), .string v], .bool four, .bool internal] w fun e w' => OnePost base a.c (Vd.mk 3 3 2) w' e ∧ Below w.heap.size w w' := by
  have HAT := Lib.hid ha
  have z14 : ((t : Int) == 14) = false := beq_eq_false_iff_ne.2 (by omega)
  have z15 : ((t : Int) == 15) = false := beq_eq_false_iff_ne.2 (by omega)
  have HBT : Hid (∀ W, Calls Tryz.prog 90 #[.int .u8 (t : Nat)] W fun e w' => e = .returned (.int .u8 0) ∧ w' = W) := fun W => by
    have h := rbits_any t W
    rwa [show bitsV t = 0 by unfold bitsV; rw [hno]] at h
  clear hno h14 h15
  have z128 := and128 f
  have zf : (((f &&& 128).toNat : Int) == 0) = true := by rw [hf]; rfl
  generalize (f &&& 128).toNat = q8 at z128 zf
  clear hf
  go_enter Tryz.func41, Tryz.ntmps41
  go_upto_region 1 with fail
  refine wp_name fun V hV => ?_
  obtain ⟨s, hs⟩ : ∃ s, s = w.heap.size := ⟨_, rfl⟩
  have HC : Hid (CellsAt V s a.ar 40) := by rw [hV, hs]; exact (((CellsAt.new _ _ _).alloc _).alloc _).alloc _
  have HR : Hid (CellsAt V (s + 1) #[.int .u8 f.toNat, .int .u8 (t : Nat), .string v] 32) := by rw [hV, hs]; exact (new2 _ _ _ _ _).alloc _
  have HZ : Hid (CellsAt V (s + 1 + 1) noAtr.ar 40) := by rw [hV, hs]; exact (new3 _ _ _ _ _).alloc _
  have HY : Hid (CellsAt V (s + 1 + 1 + 1) #[.int .i64 0, .int .u8 0, .int .u8 0] 42) := by rw [hV, hs]; exact new4 _ _ _ _ _ _
  have HB : Hid (Below w.heap.size w V) := by rw [hV]; exact (below3 _ _ _ _).alloc (below3 _ _ _ _).size _
  have HS : Hid (s = w.heap.size) := hs
  rw [← hs] at hbs ⊢
  clear hV hs ha
  obtain ⟨r0, r1, r2⟩ := CellsAt.c3 HR.out
  go_wp2_with fail
  refine (HBT.out _).mono ?_
  rintro e w2 ⟨rfl, hw2⟩
  subst w2
  have HYQ : Hid (CellsAt (V.setRow (s + 1 + 1) a.ar) (s + 1 + 1 + 1) #[.int .i64 (Vd.mk 0 0 0).act, .int .u8 (Vd.mk 0 0 0).code, .int .u8 (Vd.mk 0 0 0).sub] 42) := (setRow_other _ _ _ _ (by omega)).trans HY.out
  go_wp2_with (with_reducible show wpList _ _ _ (_ :: _) _ _; first | refine wpList_load_attrs rfl (.tmp 4) rfl s rfl a HC.out ?_ | refine wpList_store_attrs rfl (.tmp 8) (.tmp 30) rfl (s + 1 + 1) rfl a rfl noAtr HZ.out ?_ | refine wpList_store_verdict rfl (.tmp 9) (.tmp 31) rfl (s + 1 + 1 + 1) rfl (Vd.mk 3 3 2) rfl (Vd.mk 0 0 0) HYQ.out ?_)
  have HG1 : Hid (Below w.heap.size w (V.setRow (s + 1 + 1) a.ar)) := HB.out.grown (grown_setRow' _ _ _) HB.out.size (fun k hk => by cases hk; have := HS.out; omega)
  have HBF : Hid (Below w.heap.size w ((V.setRow (s + 1 + 1) a.ar).setRow (s + 1 + 1 + 1) (Vd.mk 3 3 2).ar)) := HG1.out.grown (grown_setRow' _ _ _) HG1.out.size (fun k hk => by cases hk; have := HS.out; omega)
  have HFA : Hid (CellsAt ((V.setRow (s + 1 + 1) a.ar).setRow (s + 1 + 1 + 1) (Vd.mk 3 3 2).ar) (s + 1 + 1) a.ar 40) := (setRow_other _ _ _ _ (by omega)).trans (HZ.out.setRow' _)
  have HFV : Hid (VdAt ((V.setRow (s + 1 + 1) a.ar).setRow (s + 1 + 1 + 1) (Vd.mk 3 3 2).ar) (s + 1 + 1 + 1) (Vd.mk 3 3 2)) := HYQ.out.setRow' _
  exact bodyPost_ret (results_at8 rfl _ _ (s + 1 + 1) (s + 1 + 1 + 1) a (Vd.mk 3 3 2) rfl rfl HFA.out HFV.out) rfl ⟨⟨a, rfl, AtO.below HAT.out HBF.out, rfl⟩, HBF.out⟩
end Go.Proofs.YtkcojblflebomaaGreat
