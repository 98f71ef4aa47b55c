/-
  Several texts in one.
-/
import Derived.Test.YtkcojblflebomaaGreatNR39
set_option linter.unusedVariables false
set_option linter.unusedSimpArgs false
namespace Go.Proofs.YtkcojblflebomaaGreat
open Go.RowKit Go.MapKept Go.Shelf
open Go.Lib hiding intOf
open Go.Sort hiding Below

/-- what a value taken is answered as -/
def RTPost (base : Nat) (r : AtC × Bool) (w' : World) (e : Ending) : Prop := match r.2 with
  | true => ∃ a : Atr, e = .returned (.tuple #[.agg a.ar, .bool true]) ∧ AtO w' base a ∧ a.c = r.1
  | false => ∃ a : Atr, e = .returned (.tuple #[.agg a.ar, .bool false])
theorem results_at2 {fn : Func} {p q : Tmp} (hf : fn.results = #[.cell p 40, .tmp q]) (tmps : Array Value) (w : World) (g : Nat) (x : Atr) (y : Value) (hp : tmps.getD p undef = .pointer (some ⟨g, 0, none⟩)) (hq : tmps.getD q undef = y) (hg : CellsAt w g x.ar 40) :
    (results fn tmps).run Tryz.prog w = .ok (.tuple #[.agg x.ar, y]) w := by
  obtain ⟨fs, hu⟩ := attrs_under
  rw [results_cell_tmp hf, hp]
  simp only [asAddr, Sem.run_pure, Result.andThen_ok]
  rw [run_loadVar_mid w g 0 _ x.ar.toList _ hg.range hu rfl (by rw [attrs_size]; rfl), hq]
  rfl
theorem u32_some (x : Nat) : ∃ p : Nat, IntKind.u32.wrap (x : Int) = (p : Int) ∧ p < 4294967296 ∧ (x < 4294967296 → p = x) := by
  refine ⟨x % 4294967296, ?_, by omega, fun h => Nat.mod_eq_of_lt h⟩
  rw [IntKind.wrap_u32]
  omega
set_option maxRecDepth 100000 in
set_option maxHeartbeats 8000000 in
theorem rtake_3 (a : Atr) (f : UInt8) (v : ByteArray) (four : Bool) (w : World) (base : Nat) (hbs : base ≤ w.heap.size) (ha : AtO w base a) (hv : v.size ≤ 1048576) :
    Calls Tryz.prog 91 #[.agg a.ar, .agg #[.int .u8 f.toNat, .int .u8 3, .string v], .bool four] w fun e w' => RTPost base (tab 3 v four a.c) w' e ∧ Below w.heap.size w w' := by
  have HAT := Lib.hid ha
  have z : ((v.size : Int) == 4) = (v.size == 4) := by rw [Bool.eq_iff_iff]; simp; omega
  obtain ⟨q, hq⟩ : ∃ q, q = (v.size == 4) := ⟨_, rfl⟩
  rw [← hq] at z
  have HQQ : Hid (tab 3 v four a.c = ({ a.c with next := v }, q)) := by show take3 v a.c = _; unfold take3; rw [← hq]
  generalize tab 3 v four a.c = RES at HQQ ⊢
  clear hq
  go_enter Tryz.func91, Tryz.ntmps91
  go_upto_region 1 with fail
  refine wp_name fun V hV => ?_
  obtain ⟨s, hs⟩ : ∃ s, s = w.heap.size := ⟨_, rfl⟩
  have HC : Hid (CellsAt V s a.ar 40) := by rw [hV, hs]; exact ((CellsAt.new _ _ _).alloc _).alloc _
  have HR : Hid (CellsAt V (s + 1) #[.int .u8 f.toNat, .int .u8 3, .string v] 32) := by rw [hV, hs]; exact new2 _ _ _ _ _
  have HZ : Hid (CellsAt V (s + 1 + 1) noAtr.ar 40) := by rw [hV, hs]; exact new3 _ _ _ _ _
  have HB : Hid (Below w.heap.size w V) := by rw [hV]; exact below3 _ _ _ _
  have HS : Hid (s = w.heap.size) := hs
  rw [← hs] at hbs ⊢
  clear hV hs ha
  obtain ⟨r0, r1, r2⟩ := CellsAt.c3 HR.out
  have c2 := (atr_cells HC.out).2.2.1
  have f2 := HC.out.unfrozen 2
  have HGP : Hid (V.grownBy (V.setCell ⟨s, 2, none⟩ (.string v)) (some s)) := grown_setCell V ⟨s, 2, none⟩ (.string v)
  have HP : Hid (CellsAt (V.setCell ⟨s, 2, none⟩ (.string v)) s ({ a with next := v } : Atr).ar 40) := HC.out.setAt 2 _
  have HQ : Hid (CellsAt (V.setCell ⟨s, 2, none⟩ (.string v)) (s + 1 + 1) noAtr.ar 40) := HZ.out.row HGP.out (by omega)
  have HBP : Hid (Below w.heap.size w (V.setCell ⟨s, 2, none⟩ (.string v))) := HB.out.grown HGP.out HB.out.size (fun k hk => by cases hk; exact Nat.le_of_eq HS.out.symm)
  go_wp2_with (with_reducible show wpList _ _ _ (_ :: _) _ _; first | refine wpList_load_attrs rfl (.tmp 3) rfl s rfl { a with next := v } HP.out ?_ | refine wpList_store_attrs rfl (.tmp 6) (.tmp 48) rfl (s + 1 + 1) rfl { a with next := v } rfl noAtr HQ.out ?_)
  have HF : Hid (CellsAt ((V.setCell ⟨s, 2, none⟩ (.string v)).setRow (s + 1 + 1) ({ a with next := v } : Atr).ar) (s + 1 + 1) ({ a with next := v } : Atr).ar 40) := HQ.out.setRow' _
  have HBF : Hid (Below w.heap.size w ((V.setCell ⟨s, 2, none⟩ (.string v)).setRow (s + 1 + 1) ({ a with next := v } : Atr).ar)) := HBP.out.grown (grown_setRow' _ _ _) HBP.out.size (fun k hk => by cases hk; have := HS.out; omega)
  exact bodyPost_ret (results_at2 rfl _ _ (s + 1 + 1) { a with next := v } (.bool q) rfl rfl HF.out) rfl ⟨by
    rw [HQQ.out]
    cases q with
    | true => exact ⟨_, rfl, { AtO.below HAT.out HBF.out with next := by show v.size ≤ 9223372036854775807; omega }, rfl⟩
    | false => exact ⟨_, rfl⟩, HBF.out⟩
set_option maxRecDepth 100000 in
set_option maxHeartbeats 8000000 in
theorem rtake_6 (a : Atr) (f : UInt8) (v : ByteArray) (four : Bool) (w : World) (base : Nat) (hbs : base ≤ w.heap.size) (ha : AtO w base a) (hv : v.size ≤ 1048576) :
    Calls Tryz.prog 91 #[.agg a.ar, .agg #[.int .u8 f.toNat, .int .u8 6, .string v], .bool four] w fun e w' => RTPost base (tab 6 v four a.c) w' e ∧ Below w.heap.size w w' := by
  have HAT := Lib.hid ha
  have z0 := bytes_none v
  obtain ⟨q, hq⟩ : ∃ q, q = (v.size == 0) := ⟨_, rfl⟩
  rw [← hq] at z0
  have HQQ : Hid (tab 6 v four a.c = ({ a.c with atomic := q }, q)) := by show take6 v a.c = _; unfold take6; rw [← hq]
  generalize tab 6 v four a.c = RES at HQQ ⊢
  clear hq
  go_enter Tryz.func91, Tryz.ntmps91
  go_upto_region 1 with fail
  refine wp_name fun V hV => ?_
  obtain ⟨s, hs⟩ : ∃ s, s = w.heap.size := ⟨_, rfl⟩
  have HC : Hid (CellsAt V s a.ar 40) := by rw [hV, hs]; exact ((CellsAt.new _ _ _).alloc _).alloc _
  have HR : Hid (CellsAt V (s + 1) #[.int .u8 f.toNat, .int .u8 6, .string v] 32) := by rw [hV, hs]; exact new2 _ _ _ _ _
  have HZ : Hid (CellsAt V (s + 1 + 1) noAtr.ar 40) := by rw [hV, hs]; exact new3 _ _ _ _ _
  have HB : Hid (Below w.heap.size w V) := by rw [hV]; exact below3 _ _ _ _
  have HS : Hid (s = w.heap.size) := hs
  rw [← hs] at hbs ⊢
  clear hV hs ha
  obtain ⟨r0, r1, r2⟩ := CellsAt.c3 HR.out
  have c7 := (atr_cells HC.out).2.2.2.2.2.2.2.1
  have f7 := HC.out.unfrozen 7
  have HGP : Hid (V.grownBy (V.setCell ⟨s, 7, none⟩ (.bool true)) (some s)) := grown_setCell V ⟨s, 7, none⟩ (.bool true)
  have HP : Hid (CellsAt (V.setCell ⟨s, 7, none⟩ (.bool true)) s ({ a with atomic := true } : Atr).ar 40) := HC.out.setAt 7 _
  have HQ : Hid (CellsAt (V.setCell ⟨s, 7, none⟩ (.bool true)) (s + 1 + 1) noAtr.ar 40) := HZ.out.row HGP.out (by omega)
  have HBP : Hid (Below w.heap.size w (V.setCell ⟨s, 7, none⟩ (.bool true))) := HB.out.grown HGP.out HB.out.size (fun k hk => by cases hk; exact Nat.le_of_eq HS.out.symm)
  go_wp2_with (with_reducible show wpList _ _ _ (_ :: _) _ _; first | refine wpList_load_attrs rfl (.tmp 3) rfl s rfl { a with atomic := true } HP.out ?_ | refine wpList_store_attrs rfl (.tmp 6) (.tmp 77) rfl (s + 1 + 1) rfl { a with atomic := true } rfl noAtr HQ.out ?_)
  have HF : Hid (CellsAt ((V.setCell ⟨s, 7, none⟩ (.bool true)).setRow (s + 1 + 1) ({ a with atomic := true } : Atr).ar) (s + 1 + 1) ({ a with atomic := true } : Atr).ar 40) := HQ.out.setRow' _
  have HBF : Hid (Below w.heap.size w ((V.setCell ⟨s, 7, none⟩ (.bool true)).setRow (s + 1 + 1) ({ a with atomic := true } : Atr).ar)) := HBP.out.grown (grown_setRow' _ _ _) HBP.out.size (fun k hk => by cases hk; have := HS.out; omega)
  exact bodyPost_ret (results_at2 rfl _ _ (s + 1 + 1) { a with atomic := true } (.bool q) rfl rfl HF.out) rfl ⟨by
    rw [HQQ.out]
    cases q with
    | true => exact ⟨_, rfl, { AtO.below HAT.out HBF.out with }, rfl⟩
    | false => exact ⟨_, rfl⟩, HBF.out⟩
set_option maxRecDepth 100000 in
set_option maxHeartbeats 8000000 in
theorem rtake_4 (a : Atr) (f : UInt8) (v : ByteArray) (four : Bool) (w : World) (base : Nat) (hbs : base ≤ w.heap.size) (ha : AtO w base a) (hv : v.size ≤ 1048576) :
    Calls Tryz.prog 91 #[.agg a.ar, .agg #[.int .u8 f.toNat, .int .u8 4, .string v], .bool four] w fun e w' => RTPost base (tab 4 v four a.c) w' e ∧ Below w.heap.size w w' := by
  have HAT := Lib.hid ha
  have z : ((v.size : Int) == 4) = (v.size == 4) := by rw [Bool.eq_iff_iff]; simp; omega
  obtain ⟨q, hq⟩ : ∃ q, q = (v.size == 4) := ⟨_, rfl⟩
  rw [← hq] at z
  have HVS := Lib.hid (fun W => rvalue_some v W (by omega))
  have HQQ : Hid (q = true → tab 4 v four a.c = ({ a.c with hasMed := true, med := hd v 4 }, true)) := fun h => by
    show take4 v a.c = _
    unfold take4
    rw [if_pos (by rw [hq] at h; simpa using h)]
  have HQF : Hid (q = false → (tab 4 v four a.c).2 = false) := fun h => by
    show (take4 v a.c).2 = false
    unfold take4
    rw [if_neg (by rw [hq] at h; simpa using h)]
  have HVV : Hid (q = true → v.size = 4) := fun h => by rw [hq] at h; simpa using h
  generalize tab 4 v four a.c = RES at HQQ HQF ⊢
  clear hq
  go_enter Tryz.func91, Tryz.ntmps91
  go_upto_region 1 with fail
  refine wp_name fun V hV => ?_
  obtain ⟨s, hs⟩ : ∃ s, s = w.heap.size := ⟨_, rfl⟩
  have HC : Hid (CellsAt V s a.ar 40) := by rw [hV, hs]; exact ((CellsAt.new _ _ _).alloc _).alloc _
  have HR : Hid (CellsAt V (s + 1) #[.int .u8 f.toNat, .int .u8 4, .string v] 32) := by rw [hV, hs]; exact new2 _ _ _ _ _
  have HZ : Hid (CellsAt V (s + 1 + 1) noAtr.ar 40) := by rw [hV, hs]; exact new3 _ _ _ _ _
  have HB : Hid (Below w.heap.size w V) := by rw [hV]; exact below3 _ _ _ _
  have HS : Hid (s = w.heap.size) := hs
  rw [← hs] at hbs ⊢
  clear hV hs ha
  obtain ⟨r0, r1, r2⟩ := CellsAt.c3 HR.out
  obtain ⟨c0, c1, c2, c3, c4, c5, c6, c7, c8, c9, c10, c11, c12, c13, c14, c15⟩ := atr_cells HC.out
  have f1 := HC.out.unfrozen 3
  have f2 := HC.out.unfrozen 4
  clear c0 c1 c2 c5 c6 c7 c8 c9 c10 c11 c12 c13 c14 c15
  go_wp2_with fail
  refine (HVS.out _).mono ?_
  rintro e w2 ⟨⟨n, hn, rfl, hn8⟩, rfl⟩
  obtain ⟨y, hy, hy4, hyn⟩ := u32_some n
  have HY : Hid (v.size = 4 → y = hd v 4) := fun h => by
    have h1 := hn8 (by omega)
    have h2 : beVal v.data.toList = hd v 4 := by
      unfold hd
      rw [List.take_of_length_le (by show v.data.toList.length ≤ 4; rw [show v.data.toList.length = v.size from rfl]; omega)]
    rw [h2] at h1
    rw [hyn (by rw [h1]; exact hd_u32 v), h1]
  clear hn8 hyn hn
  have HGP : Hid (V.grownBy ((V.setCell ⟨s, 3, none⟩ (.bool true)).setCell ⟨s, 4, none⟩ (.int .u32 (y : Nat))) (some s)) := grown_trans (grown_setCell V ⟨s, 3, none⟩ (.bool true)) (grown_setCell _ ⟨s, 4, none⟩ (.int .u32 (y : Nat)))
  have HP : Hid (CellsAt ((V.setCell ⟨s, 3, none⟩ (.bool true)).setCell ⟨s, 4, none⟩ (.int .u32 (y : Nat))) s ({ a with hasMed := true, med := y } : Atr).ar 40) := (HC.out.setAt 3 _).setAt 4 _
  have HQ : Hid (CellsAt ((V.setCell ⟨s, 3, none⟩ (.bool true)).setCell ⟨s, 4, none⟩ (.int .u32 (y : Nat))) (s + 1 + 1) noAtr.ar 40) := HZ.out.row HGP.out (by omega)
  have HBP : Hid (Below w.heap.size w ((V.setCell ⟨s, 3, none⟩ (.bool true)).setCell ⟨s, 4, none⟩ (.int .u32 (y : Nat)))) := HB.out.grown HGP.out HB.out.size (fun k hk => by cases hk; exact Nat.le_of_eq HS.out.symm)
  go_wp2_with (with_reducible show wpList _ _ _ (_ :: _) _ _; first | refine wpList_load_attrs rfl (.tmp 3) rfl s rfl { a with hasMed := true, med := y } HP.out ?_ | refine wpList_store_attrs rfl (.tmp 6) (.tmp 59) rfl (s + 1 + 1) rfl { a with hasMed := true, med := y } rfl noAtr HQ.out ?_)
  have HF : Hid (CellsAt (((V.setCell ⟨s, 3, none⟩ (.bool true)).setCell ⟨s, 4, none⟩ (.int .u32 (y : Nat))).setRow (s + 1 + 1) ({ a with hasMed := true, med := y } : Atr).ar) (s + 1 + 1) ({ a with hasMed := true, med := y } : Atr).ar 40) := HQ.out.setRow' _
  have HBF : Hid (Below w.heap.size w (((V.setCell ⟨s, 3, none⟩ (.bool true)).setCell ⟨s, 4, none⟩ (.int .u32 (y : Nat))).setRow (s + 1 + 1) ({ a with hasMed := true, med := y } : Atr).ar)) := HBP.out.grown (grown_setRow' _ _ _) HBP.out.size (fun k hk => by cases hk; have := HS.out; omega)
  exact bodyPost_ret (results_at2 rfl _ _ (s + 1 + 1) { a with hasMed := true, med := y } (.bool q) rfl rfl HF.out) rfl ⟨by
    cases q with
    | true =>
      rw [HQQ.out rfl]
      have h := HAT.out.nfit
      exact ⟨_, rfl, { AtO.below HAT.out HBF.out with nfit := ⟨hy4, h.2.1, h.2.2.1, h.2.2.2.1, h.2.2.2.2⟩ }, by rw [← HY.out (HVV.out rfl)]; rfl⟩
    | false =>
      unfold RTPost
      rw [HQF.out rfl]
      exact ⟨_, rfl⟩, HBF.out⟩
set_option maxRecDepth 100000 in
set_option maxHeartbeats 8000000 in
theorem rtake_5 (a : Atr) (f : UInt8) (v : ByteArray) (four : Bool) (w : World) (base : Nat) (hbs : base ≤ w.heap.size) (ha : AtO w base a) (hv : v.size ≤ 1048576) :
    Calls Tryz.prog 91 #[.agg a.ar, .agg #[.int .u8 f.toNat, .int .u8 5, .string v], .bool four] w fun e w' => RTPost base (tab 5 v four a.c) w' e ∧ Below w.heap.size w w' := by
  have HAT := Lib.hid ha
  have z : ((v.size : Int) == 4) = (v.size == 4) := by rw [Bool.eq_iff_iff]; simp; omega
  obtain ⟨q, hq⟩ : ∃ q, q = (v.size == 4) := ⟨_, rfl⟩
  rw [← hq] at z
  have HVS := Lib.hid (fun W => rvalue_some v W (by omega))
  have HQQ : Hid (q = true → tab 5 v four a.c = ({ a.c with hasPref := true, pref := hd v 4 }, true)) := fun h => by
    show take5 v a.c = _
    unfold take5
    rw [if_pos (by rw [hq] at h; simpa using h)]
  have HQF : Hid (q = false → (tab 5 v four a.c).2 = false) := fun h => by
    show (take5 v a.c).2 = false
    unfold take5
    rw [if_neg (by rw [hq] at h; simpa using h)]
  have HVV : Hid (q = true → v.size = 4) := fun h => by rw [hq] at h; simpa using h
  generalize tab 5 v four a.c = RES at HQQ HQF ⊢
  clear hq
  go_enter Tryz.func91, Tryz.ntmps91
  go_upto_region 1 with fail
  refine wp_name fun V hV => ?_
  obtain ⟨s, hs⟩ : ∃ s, s = w.heap.size := ⟨_, rfl⟩
  have HC : Hid (CellsAt V s a.ar 40) := by rw [hV, hs]; exact ((CellsAt.new _ _ _).alloc _).alloc _
  have HR : Hid (CellsAt V (s + 1) #[.int .u8 f.toNat, .int .u8 5, .string v] 32) := by rw [hV, hs]; exact new2 _ _ _ _ _
  have HZ : Hid (CellsAt V (s + 1 + 1) noAtr.ar 40) := by rw [hV, hs]; exact new3 _ _ _ _ _
  have HB : Hid (Below w.heap.size w V) := by rw [hV]; exact below3 _ _ _ _
  have HS : Hid (s = w.heap.size) := hs
  rw [← hs] at hbs ⊢
  clear hV hs ha
  obtain ⟨r0, r1, r2⟩ := CellsAt.c3 HR.out
  obtain ⟨c0, c1, c2, c3, c4, c5, c6, c7, c8, c9, c10, c11, c12, c13, c14, c15⟩ := atr_cells HC.out
  have f1 := HC.out.unfrozen 5
  have f2 := HC.out.unfrozen 6
  clear c0 c1 c2 c3 c4 c7 c8 c9 c10 c11 c12 c13 c14 c15
  go_wp2_with fail
  refine (HVS.out _).mono ?_
  rintro e w2 ⟨⟨n, hn, rfl, hn8⟩, rfl⟩
  obtain ⟨y, hy, hy4, hyn⟩ := u32_some n
  have HY : Hid (v.size = 4 → y = hd v 4) := fun h => by
    have h1 := hn8 (by omega)
    have h2 : beVal v.data.toList = hd v 4 := by
      unfold hd
      rw [List.take_of_length_le (by show v.data.toList.length ≤ 4; rw [show v.data.toList.length = v.size from rfl]; omega)]
    rw [h2] at h1
    rw [hyn (by rw [h1]; exact hd_u32 v), h1]
  clear hn8 hyn hn
  have HGP : Hid (V.grownBy ((V.setCell ⟨s, 5, none⟩ (.bool true)).setCell ⟨s, 6, none⟩ (.int .u32 (y : Nat))) (some s)) := grown_trans (grown_setCell V ⟨s, 5, none⟩ (.bool true)) (grown_setCell _ ⟨s, 6, none⟩ (.int .u32 (y : Nat)))
  have HP : Hid (CellsAt ((V.setCell ⟨s, 5, none⟩ (.bool true)).setCell ⟨s, 6, none⟩ (.int .u32 (y : Nat))) s ({ a with hasPref := true, pref := y } : Atr).ar 40) := (HC.out.setAt 5 _).setAt 6 _
  have HQ : Hid (CellsAt ((V.setCell ⟨s, 5, none⟩ (.bool true)).setCell ⟨s, 6, none⟩ (.int .u32 (y : Nat))) (s + 1 + 1) noAtr.ar 40) := HZ.out.row HGP.out (by omega)
  have HBP : Hid (Below w.heap.size w ((V.setCell ⟨s, 5, none⟩ (.bool true)).setCell ⟨s, 6, none⟩ (.int .u32 (y : Nat)))) := HB.out.grown HGP.out HB.out.size (fun k hk => by cases hk; exact Nat.le_of_eq HS.out.symm)
  go_wp2_with (with_reducible show wpList _ _ _ (_ :: _) _ _; first | refine wpList_load_attrs rfl (.tmp 3) rfl s rfl { a with hasPref := true, pref := y } HP.out ?_ | refine wpList_store_attrs rfl (.tmp 6) (.tmp 70) rfl (s + 1 + 1) rfl { a with hasPref := true, pref := y } rfl noAtr HQ.out ?_)
  have HF : Hid (CellsAt (((V.setCell ⟨s, 5, none⟩ (.bool true)).setCell ⟨s, 6, none⟩ (.int .u32 (y : Nat))).setRow (s + 1 + 1) ({ a with hasPref := true, pref := y } : Atr).ar) (s + 1 + 1) ({ a with hasPref := true, pref := y } : Atr).ar 40) := HQ.out.setRow' _
  have HBF : Hid (Below w.heap.size w (((V.setCell ⟨s, 5, none⟩ (.bool true)).setCell ⟨s, 6, none⟩ (.int .u32 (y : Nat))).setRow (s + 1 + 1) ({ a with hasPref := true, pref := y } : Atr).ar)) := HBP.out.grown (grown_setRow' _ _ _) HBP.out.size (fun k hk => by cases hk; have := HS.out; omega)
  exact bodyPost_ret (results_at2 rfl _ _ (s + 1 + 1) { a with hasPref := true, pref := y } (.bool q) rfl rfl HF.out) rfl ⟨by
    cases q with
    | true =>
      rw [HQQ.out rfl]
      have h := HAT.out.nfit
      exact ⟨_, rfl, { AtO.below HAT.out HBF.out with nfit := ⟨h.1, hy4, h.2.2.1, h.2.2.2.1, h.2.2.2.2⟩ }, by rw [← HY.out (HVV.out rfl)]; rfl⟩
    | false =>
      unfold RTPost
      rw [HQF.out rfl]
      exact ⟨_, rfl⟩, HBF.out⟩
set_option maxRecDepth 100000 in
set_option maxHeartbeats 8000000 in
theorem rtake_9 (a : Atr) (f : UInt8) (v : ByteArray) (four : Bool) (w : World) (base : Nat) (hbs : base ≤ w.heap.size) (ha : AtO w base a) (hv : v.size ≤ 1048576) :
    Calls Tryz.prog 91 #[.agg a.ar, .agg #[.int .u8 f.toNat, .int .u8 9, .string v], .bool four] w fun e w' => RTPost base (tab 9 v four a.c) w' e ∧ Below w.heap.size w w' := by
  have HAT := Lib.hid ha
  have z : ((v.size : Int) == 4) = (v.size == 4) := by rw [Bool.eq_iff_iff]; simp; omega
  obtain ⟨q, hq⟩ : ∃ q, q = (v.size == 4) := ⟨_, rfl⟩
  rw [← hq] at z
  have HVS := Lib.hid (fun W => rvalue_some v W (by omega))
  have HQQ : Hid (q = true → tab 9 v four a.c = ({ a.c with hasOrig := true, orig := hd v 4 }, true)) := fun h => by
    show take9 v a.c = _
    unfold take9
    rw [if_pos (by rw [hq] at h; simpa using h)]
  have HQF : Hid (q = false → (tab 9 v four a.c).2 = false) := fun h => by
    show (take9 v a.c).2 = false
    unfold take9
    rw [if_neg (by rw [hq] at h; simpa using h)]
  have HVV : Hid (q = true → v.size = 4) := fun h => by rw [hq] at h; simpa using h
  generalize tab 9 v four a.c = RES at HQQ HQF ⊢
  clear hq
  go_enter Tryz.func91, Tryz.ntmps91
  go_upto_region 1 with fail
  refine wp_name fun V hV => ?_
  obtain ⟨s, hs⟩ : ∃ s, s = w.heap.size := ⟨_, rfl⟩
  have HC : Hid (CellsAt V s a.ar 40) := by rw [hV, hs]; exact ((CellsAt.new _ _ _).alloc _).alloc _
  have HR : Hid (CellsAt V (s + 1) #[.int .u8 f.toNat, .int .u8 9, .string v] 32) := by rw [hV, hs]; exact new2 _ _ _ _ _
  have HZ : Hid (CellsAt V (s + 1 + 1) noAtr.ar 40) := by rw [hV, hs]; exact new3 _ _ _ _ _
  have HB : Hid (Below w.heap.size w V) := by rw [hV]; exact below3 _ _ _ _
  have HS : Hid (s = w.heap.size) := hs
  rw [← hs] at hbs ⊢
  clear hV hs ha
  obtain ⟨r0, r1, r2⟩ := CellsAt.c3 HR.out
  obtain ⟨c0, c1, c2, c3, c4, c5, c6, c7, c8, c9, c10, c11, c12, c13, c14, c15⟩ := atr_cells HC.out
  have f1 := HC.out.unfrozen 13
  have f2 := HC.out.unfrozen 14
  clear c0 c1 c2 c3 c4 c5 c6 c7 c8 c9 c10 c11 c12 c15
  go_wp2_with fail
  refine (HVS.out _).mono ?_
  rintro e w2 ⟨⟨n, hn, rfl, hn8⟩, rfl⟩
  obtain ⟨y, hy, hy4, hyn⟩ := u32_some n
  have HY : Hid (v.size = 4 → y = hd v 4) := fun h => by
    have h1 := hn8 (by omega)
    have h2 : beVal v.data.toList = hd v 4 := by
      unfold hd
      rw [List.take_of_length_le (by show v.data.toList.length ≤ 4; rw [show v.data.toList.length = v.size from rfl]; omega)]
    rw [h2] at h1
    rw [hyn (by rw [h1]; exact hd_u32 v), h1]
  clear hn8 hyn hn
  have HGP : Hid (V.grownBy ((V.setCell ⟨s, 13, none⟩ (.bool true)).setCell ⟨s, 14, none⟩ (.int .u32 (y : Nat))) (some s)) := grown_trans (grown_setCell V ⟨s, 13, none⟩ (.bool true)) (grown_setCell _ ⟨s, 14, none⟩ (.int .u32 (y : Nat)))
  have HP : Hid (CellsAt ((V.setCell ⟨s, 13, none⟩ (.bool true)).setCell ⟨s, 14, none⟩ (.int .u32 (y : Nat))) s ({ a with hasOrig := true, orig := y } : Atr).ar 40) := (HC.out.setAt 13 _).setAt 14 _
  have HQ : Hid (CellsAt ((V.setCell ⟨s, 13, none⟩ (.bool true)).setCell ⟨s, 14, none⟩ (.int .u32 (y : Nat))) (s + 1 + 1) noAtr.ar 40) := HZ.out.row HGP.out (by omega)
  have HBP : Hid (Below w.heap.size w ((V.setCell ⟨s, 13, none⟩ (.bool true)).setCell ⟨s, 14, none⟩ (.int .u32 (y : Nat)))) := HB.out.grown HGP.out HB.out.size (fun k hk => by cases hk; exact Nat.le_of_eq HS.out.symm)
  go_wp2_with (with_reducible show wpList _ _ _ (_ :: _) _ _; first | refine wpList_load_attrs rfl (.tmp 3) rfl s rfl { a with hasOrig := true, orig := y } HP.out ?_ | refine wpList_store_attrs rfl (.tmp 6) (.tmp 115) rfl (s + 1 + 1) rfl { a with hasOrig := true, orig := y } rfl noAtr HQ.out ?_)
  have HF : Hid (CellsAt (((V.setCell ⟨s, 13, none⟩ (.bool true)).setCell ⟨s, 14, none⟩ (.int .u32 (y : Nat))).setRow (s + 1 + 1) ({ a with hasOrig := true, orig := y } : Atr).ar) (s + 1 + 1) ({ a with hasOrig := true, orig := y } : Atr).ar 40) := HQ.out.setRow' _
  have HBF : Hid (Below w.heap.size w (((V.setCell ⟨s, 13, none⟩ (.bool true)).setCell ⟨s, 14, none⟩ (.int .u32 (y : Nat))).setRow (s + 1 + 1) ({ a with hasOrig := true, orig := y } : Atr).ar)) := HBP.out.grown (grown_setRow' _ _ _) HBP.out.size (fun k hk => by cases hk; have := HS.out; omega)
  exact bodyPost_ret (results_at2 rfl _ _ (s + 1 + 1) { a with hasOrig := true, orig := y } (.bool q) rfl rfl HF.out) rfl ⟨by
    cases q with
    | true =>
      rw [HQQ.out rfl]
      have h := HAT.out.nfit
      exact ⟨_, rfl, { AtO.below HAT.out HBF.out with nfit := ⟨h.1, h.2.1, h.2.2.1, h.2.2.2.1, hy4⟩ }, by rw [← HY.out (HVV.out rfl)]; rfl⟩
    | false =>
      unfold RTPost
      rw [HQF.out rfl]
      exact ⟨_, rfl⟩, HBF.out⟩
set_option maxRecDepth 100000 in
set_option maxHeartbeats 8000000 in
theorem rtake_8 (a : Atr) (f : UInt8) (v : ByteArray) (four : Bool) (w : World) (base : Nat) (hbs : base ≤ w.heap.size) (ha : AtO w base a) (hv : v.size ≤ 1048576) :
    Calls Tryz.prog 91 #[.agg a.ar, .agg #[.int .u8 f.toNat, .int .u8 8, .string v], .bool four] w fun e w' => (∃ a' : Atr, e = .returned (.tuple #[.agg a'.ar, .bool true])) ∧ Below w.heap.size w w' := by
  have HAT := Lib.hid ha
  go_enter Tryz.func91, Tryz.ntmps91
  go_upto_region 1 with fail
  refine wp_name fun V hV => ?_
  obtain ⟨s, hs⟩ : ∃ s, s = w.heap.size := ⟨_, rfl⟩
  have HC : Hid (CellsAt V s a.ar 40) := by rw [hV, hs]; exact ((CellsAt.new _ _ _).alloc _).alloc _
  have HR : Hid (CellsAt V (s + 1) #[.int .u8 f.toNat, .int .u8 8, .string v] 32) := by rw [hV, hs]; exact new2 _ _ _ _ _
  have HZ : Hid (CellsAt V (s + 1 + 1) noAtr.ar 40) := by rw [hV, hs]; exact new3 _ _ _ _ _
  have HB : Hid (Below w.heap.size w V) := by rw [hV]; exact below3 _ _ _ _
  have HS : Hid (s = w.heap.size) := hs
  rw [← hs] at hbs ⊢
  clear hV hs ha
  obtain ⟨r0, r1, r2⟩ := CellsAt.c3 HR.out
  have HP := HC
  have HQ := HZ
  have HBP := HB
  go_wp2_with (with_reducible show wpList _ _ _ (_ :: _) _ _; first | refine wpList_load_attrs rfl (.tmp 3) rfl s rfl a HP.out ?_ | refine wpList_store_attrs rfl (.tmp 6) (.tmp 119) rfl (s + 1 + 1) rfl a rfl noAtr HQ.out ?_)
  have HF : Hid (CellsAt ((V).setRow (s + 1 + 1) (a : Atr).ar) (s + 1 + 1) (a : Atr).ar 40) := HQ.out.setRow' _
  have HBF : Hid (Below w.heap.size w ((V).setRow (s + 1 + 1) (a : Atr).ar)) := HBP.out.grown (grown_setRow' _ _ _) HBP.out.size (fun k hk => by cases hk; have := HS.out; omega)
  exact bodyPost_ret (results_at2 rfl _ _ (s + 1 + 1) a (.bool true) rfl rfl HF.out) rfl ⟨⟨a, rfl⟩, HBF.out⟩
set_option maxRecDepth 100000 in
set_option maxHeartbeats 8000000 in
theorem rtake_10 (a : Atr) (f : UInt8) (v : ByteArray) (four : Bool) (w : World) (base : Nat) (hbs : base ≤ w.heap.size) (ha : AtO w base a) (hv : v.size ≤ 1048576) :
    Calls Tryz.prog 91 #[.agg a.ar, .agg #[.int .u8 f.toNat, .int .u8 10, .string v], .bool four] w fun e w' => (∃ a' : Atr, e = .returned (.tuple #[.agg a'.ar, .bool true])) ∧ Below w.heap.size w w' := by
  have HAT := Lib.hid ha
  go_enter Tryz.func91, Tryz.ntmps91
  go_upto_region 1 with fail
  refine wp_name fun V hV => ?_
  obtain ⟨s, hs⟩ : ∃ s, s = w.heap.size := ⟨_, rfl⟩
  have HC : Hid (CellsAt V s a.ar 40) := by rw [hV, hs]; exact ((CellsAt.new _ _ _).alloc _).alloc _
  have HR : Hid (CellsAt V (s + 1) #[.int .u8 f.toNat, .int .u8 10, .string v] 32) := by rw [hV, hs]; exact new2 _ _ _ _ _
  have HZ : Hid (CellsAt V (s + 1 + 1) noAtr.ar 40) := by rw [hV, hs]; exact new3 _ _ _ _ _
  have HB : Hid (Below w.heap.size w V) := by rw [hV]; exact below3 _ _ _ _
  have HS : Hid (s = w.heap.size) := hs
  rw [← hs] at hbs ⊢
  clear hV hs ha
  obtain ⟨r0, r1, r2⟩ := CellsAt.c3 HR.out
  have HP := HC
  have HQ := HZ
  have HBP := HB
  go_wp2_with (with_reducible show wpList _ _ _ (_ :: _) _ _; first | refine wpList_load_attrs rfl (.tmp 3) rfl s rfl a HP.out ?_ | refine wpList_store_attrs rfl (.tmp 6) (.tmp 119) rfl (s + 1 + 1) rfl a rfl noAtr HQ.out ?_)
  have HF : Hid (CellsAt ((V).setRow (s + 1 + 1) (a : Atr).ar) (s + 1 + 1) (a : Atr).ar 40) := HQ.out.setRow' _
  have HBF : Hid (Below w.heap.size w ((V).setRow (s + 1 + 1) (a : Atr).ar)) := HBP.out.grown (grown_setRow' _ _ _) HBP.out.size (fun k hk => by cases hk; have := HS.out; omega)
  exact bodyPost_ret (results_at2 rfl _ _ (s + 1 + 1) a (.bool true) rfl rfl HF.out) rfl ⟨⟨a, rfl⟩, HBF.out⟩
set_option maxRecDepth 100000 in
set_option maxHeartbeats 8000000 in
theorem rtake_16 (a : Atr) (f : UInt8) (v : ByteArray) (four : Bool) (w : World) (base : Nat) (hbs : base ≤ w.heap.size) (ha : AtO w base a) (hv : v.size ≤ 1048576) :
    Calls Tryz.prog 91 #[.agg a.ar, .agg #[.int .u8 f.toNat, .int .u8 16, .string v], .bool four] w fun e w' => (∃ a' : Atr, e = .returned (.tuple #[.agg a'.ar, .bool true])) ∧ Below w.heap.size w w' := by
  have HAT := Lib.hid ha
  go_enter Tryz.func91, Tryz.ntmps91
  go_upto_region 1 with fail
  refine wp_name fun V hV => ?_
  obtain ⟨s, hs⟩ : ∃ s, s = w.heap.size := ⟨_, rfl⟩
  have HC : Hid (CellsAt V s a.ar 40) := by rw [hV, hs]; exact ((CellsAt.new _ _ _).alloc _).alloc _
  have HR : Hid (CellsAt V (s + 1) #[.int .u8 f.toNat, .int .u8 16, .string v] 32) := by rw [hV, hs]; exact new2 _ _ _ _ _
  have HZ : Hid (CellsAt V (s + 1 + 1) noAtr.ar 40) := by rw [hV, hs]; exact new3 _ _ _ _ _
  have HB : Hid (Below w.heap.size w V) := by rw [hV]; exact below3 _ _ _ _
  have HS : Hid (s = w.heap.size) := hs
  rw [← hs] at hbs ⊢
  clear hV hs ha
  obtain ⟨r0, r1, r2⟩ := CellsAt.c3 HR.out
  have HP := HC
  have HQ := HZ
  have HBP := HB
  go_wp2_with (with_reducible show wpList _ _ _ (_ :: _) _ _; first | refine wpList_load_attrs rfl (.tmp 3) rfl s rfl a HP.out ?_ | refine wpList_store_attrs rfl (.tmp 6) (.tmp 119) rfl (s + 1 + 1) rfl a rfl noAtr HQ.out ?_)
  have HF : Hid (CellsAt ((V).setRow (s + 1 + 1) (a : Atr).ar) (s + 1 + 1) (a : Atr).ar 40) := HQ.out.setRow' _
  have HBF : Hid (Below w.heap.size w ((V).setRow (s + 1 + 1) (a : Atr).ar)) := HBP.out.grown (grown_setRow' _ _ _) HBP.out.size (fun k hk => by cases hk; have := HS.out; omega)
  exact bodyPost_ret (results_at2 rfl _ _ (s + 1 + 1) a (.bool true) rfl rfl HF.out) rfl ⟨⟨a, rfl⟩, HBF.out⟩
set_option maxRecDepth 100000 in
set_option maxHeartbeats 8000000 in
theorem rtake_32 (a : Atr) (f : UInt8) (v : ByteArray) (four : Bool) (w : World) (base : Nat) (hbs : base ≤ w.heap.size) (ha : AtO w base a) (hv : v.size ≤ 1048576) :
    Calls Tryz.prog 91 #[.agg a.ar, .agg #[.int .u8 f.toNat, .int .u8 32, .string v], .bool four] w fun e w' => (∃ a' : Atr, e = .returned (.tuple #[.agg a'.ar, .bool true])) ∧ Below w.heap.size w w' := by
  have HAT := Lib.hid ha
  go_enter Tryz.func91, Tryz.ntmps91
  go_upto_region 1 with fail
  refine wp_name fun V hV => ?_
  obtain ⟨s, hs⟩ : ∃ s, s = w.heap.size := ⟨_, rfl⟩
  have HC : Hid (CellsAt V s a.ar 40) := by rw [hV, hs]; exact ((CellsAt.new _ _ _).alloc _).alloc _
  have HR : Hid (CellsAt V (s + 1) #[.int .u8 f.toNat, .int .u8 32, .string v] 32) := by rw [hV, hs]; exact new2 _ _ _ _ _
  have HZ : Hid (CellsAt V (s + 1 + 1) noAtr.ar 40) := by rw [hV, hs]; exact new3 _ _ _ _ _
  have HB : Hid (Below w.heap.size w V) := by rw [hV]; exact below3 _ _ _ _
  have HS : Hid (s = w.heap.size) := hs
  rw [← hs] at hbs ⊢
  clear hV hs ha
  obtain ⟨r0, r1, r2⟩ := CellsAt.c3 HR.out
  have HP := HC
  have HQ := HZ
  have HBP := HB
  go_wp2_with (with_reducible show wpList _ _ _ (_ :: _) _ _; first | refine wpList_load_attrs rfl (.tmp 3) rfl s rfl a HP.out ?_ | refine wpList_store_attrs rfl (.tmp 6) (.tmp 119) rfl (s + 1 + 1) rfl a rfl noAtr HQ.out ?_)
  have HF : Hid (CellsAt ((V).setRow (s + 1 + 1) (a : Atr).ar) (s + 1 + 1) (a : Atr).ar 40) := HQ.out.setRow' _
  have HBF : Hid (Below w.heap.size w ((V).setRow (s + 1 + 1) (a : Atr).ar)) := HBP.out.grown (grown_setRow' _ _ _) HBP.out.size (fun k hk => by cases hk; have := HS.out; omega)
  exact bodyPost_ret (results_at2 rfl _ _ (s + 1 + 1) a (.bool true) rfl rfl HF.out) rfl ⟨⟨a, rfl⟩, HBF.out⟩
end Go.Proofs.YtkcojblflebomaaGreat
