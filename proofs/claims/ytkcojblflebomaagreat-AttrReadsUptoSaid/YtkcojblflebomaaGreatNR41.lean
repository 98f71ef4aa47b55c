/-
  Several texts in one.
-/
import Derived.Test.YtkcojblflebomaaGreatNR40
import Derived.Test.YtkcojblflebomaaGreatNR38
set_option linter.unusedVariables false
set_option linter.unusedSimpArgs false
namespace Go.Proofs.YtkcojblflebomaaGreat
open Go.RowKit Go.MapKept Go.Shelf
open Go.Lib hiding intOf
open Go.Sort hiding Below

set_option maxRecDepth 100000 in
set_option maxHeartbeats 8000000 in
theorem rtake_1 (a : Atr) (f : UInt8) (v : ByteArray) (four : Bool) (w : World) (base : Nat) (hbs : base ≤ w.heap.size) (ha : AtO w base a) (hv : v.size ≤ 1048576) :
    Calls Tryz.prog 91 #[.agg a.ar, .agg #[.int .u8 f.toNat, .int .u8 1, .string v], .bool four] w fun e w' => RTPost base (tab 1 v four a.c) w' e ∧ Below w.heap.size w w' := by
  have HAT := Lib.hid ha
  by_cases h1 : v.size = 1
  case neg =>
    have HQF : Hid ((tab 1 v four a.c).2 = false) := by show (take1 v a.c).2 = false; unfold take1; rw [if_neg (fun e => h1 e.1)]
    have z1 : ((v.size : Int) != 1) = true := bne_iff_ne.2 (by omega)
    generalize tab 1 v four a.c = RES at HQF ⊢
    clear h1
    go_enter Tryz.func91, Tryz.ntmps91
    go_upto_region 1 with fail
    refine wp_name fun V hV => ?_
    obtain ⟨s, hs⟩ : ∃ s, s = w.heap.size := ⟨_, rfl⟩
    have HC : Hid (CellsAt V s a.ar 40) := by rw [hV, hs]; exact ((CellsAt.new _ _ _).alloc _).alloc _
    have HR : Hid (CellsAt V (s + 1) #[.int .u8 f.toNat, .int .u8 1, .string v] 32) := by rw [hV, hs]; exact new2 _ _ _ _ _
    have HZ : Hid (CellsAt V (s + 1 + 1) noAtr.ar 40) := by rw [hV, hs]; exact new3 _ _ _ _ _
    have HB : Hid (Below w.heap.size w V) := by rw [hV]; exact below3 _ _ _ _
    have HS : Hid (s = w.heap.size) := hs
    rw [← hs] at hbs ⊢
    clear hV hs ha
    obtain ⟨r0, r1, r2⟩ := CellsAt.c3 HR.out
    have HP := HC
    have HQ := HZ
    have HBP := HB
    go_wp2_with (with_reducible show wpList _ _ _ (_ :: _) _ _; first | refine wpList_load_attrs rfl (.tmp 3) rfl s rfl a HP.out ?_ | refine wpList_store_attrs rfl (.tmp 6) (.tmp 26) rfl (s + 1 + 1) rfl a rfl noAtr HQ.out ?_)
    have HF : Hid (CellsAt ((V).setRow (s + 1 + 1) (a : Atr).ar) (s + 1 + 1) (a : Atr).ar 40) := HQ.out.setRow' _
    have HBF : Hid (Below w.heap.size w ((V).setRow (s + 1 + 1) (a : Atr).ar)) := HBP.out.grown (grown_setRow' _ _ _) HBP.out.size (fun k hk => by cases hk; have := HS.out; omega)
    exact bodyPost_ret (results_at2 rfl _ _ (s + 1 + 1) a (.bool false) rfl rfl HF.out) rfl ⟨by
      unfold RTPost
      rw [HQF.out]
      exact ⟨_, rfl⟩, HBF.out⟩
  have h0 : 0 < v.size := by omega
  have HD := Lib.hid (hd_first h1 h0)
  have z1 : ((v.size : Int) != 1) = false := by simp; omega
  obtain ⟨x, hx⟩ : ∃ x, x = v[0].toNat := ⟨_, rfl⟩
  have hx8 : x < 256 := by rw [hx]; exact v[0].toNat_lt
  by_cases h2 : v[0].toNat ≤ 2
  case neg =>
    have HQF : Hid ((tab 1 v four a.c).2 = false) := by show (take1 v a.c).2 = false; unfold take1; rw [if_neg (fun e => h2 (by rw [← HD.out]; exact e.2))]
    have h2' : 2 < (v[0].toNat : Int) := by omega
    have h00 : 0 < (v.size : Int) := by omega
    generalize tab 1 v four a.c = RES at HQF ⊢
    clear h1 h2 hx hx8
    go_enter Tryz.func91, Tryz.ntmps91
    go_upto_region 1 with fail
    refine wp_name fun V hV => ?_
    obtain ⟨s, hs⟩ : ∃ s, s = w.heap.size := ⟨_, rfl⟩
    have HC : Hid (CellsAt V s a.ar 40) := by rw [hV, hs]; exact ((CellsAt.new _ _ _).alloc _).alloc _
    have HR : Hid (CellsAt V (s + 1) #[.int .u8 f.toNat, .int .u8 1, .string v] 32) := by rw [hV, hs]; exact new2 _ _ _ _ _
    have HZ : Hid (CellsAt V (s + 1 + 1) noAtr.ar 40) := by rw [hV, hs]; exact new3 _ _ _ _ _
    have HB : Hid (Below w.heap.size w V) := by rw [hV]; exact below3 _ _ _ _
    have HS : Hid (s = w.heap.size) := hs
    rw [← hs] at hbs ⊢
    clear hV hs ha
    obtain ⟨r0, r1, r2⟩ := CellsAt.c3 HR.out
    have HP := HC
    have HQ := HZ
    have HBP := HB
    go_wp2_with (with_reducible show wpList _ _ _ (_ :: _) _ _; first | refine wpList_load_attrs rfl (.tmp 3) rfl s rfl a HP.out ?_ | refine wpList_store_attrs rfl (.tmp 6) (.tmp 26) rfl (s + 1 + 1) rfl a rfl noAtr HQ.out ?_)
    have HF : Hid (CellsAt ((V).setRow (s + 1 + 1) (a : Atr).ar) (s + 1 + 1) (a : Atr).ar 40) := HQ.out.setRow' _
    have HBF : Hid (Below w.heap.size w ((V).setRow (s + 1 + 1) (a : Atr).ar)) := HBP.out.grown (grown_setRow' _ _ _) HBP.out.size (fun k hk => by cases hk; have := HS.out; omega)
    exact bodyPost_ret (results_at2 rfl _ _ (s + 1 + 1) a (.bool false) rfl rfl HF.out) rfl ⟨by
      unfold RTPost
      rw [HQF.out]
      exact ⟨_, rfl⟩, HBF.out⟩
  have HQQ : Hid (tab 1 v four a.c = ({ a.c with origin := (v[0].toNat : Nat) }, true)) := by show take1 v a.c = _; unfold take1; rw [if_pos ⟨h1, by rw [HD.out]; exact h2⟩, HD.out]
  have h2' : ¬ 2 < (v[0].toNat : Int) := by omega
  have h00 : 0 < (v.size : Int) := by omega
  generalize tab 1 v four a.c = RES at HQQ ⊢
  clear h1 h2 hx hx8
  go_enter Tryz.func91, Tryz.ntmps91
  go_upto_region 1 with fail
  refine wp_name fun V hV => ?_
  obtain ⟨s, hs⟩ : ∃ s, s = w.heap.size := ⟨_, rfl⟩
  have HC : Hid (CellsAt V s a.ar 40) := by rw [hV, hs]; exact ((CellsAt.new _ _ _).alloc _).alloc _
  have HR : Hid (CellsAt V (s + 1) #[.int .u8 f.toNat, .int .u8 1, .string v] 32) := by rw [hV, hs]; exact new2 _ _ _ _ _
  have HZ : Hid (CellsAt V (s + 1 + 1) noAtr.ar 40) := by rw [hV, hs]; exact new3 _ _ _ _ _
  have HB : Hid (Below w.heap.size w V) := by rw [hV]; exact below3 _ _ _ _
  have HS : Hid (s = w.heap.size) := hs
  rw [← hs] at hbs ⊢
  clear hV hs ha
  obtain ⟨r0, r1, r2⟩ := CellsAt.c3 HR.out
  have c0 := (atr_cells HC.out).1
  have f0 := HC.out.unfrozen 0
  have HGP : Hid (V.grownBy (V.setCell ⟨s, 0, none⟩ (.int .i64 (v[0].toNat : Nat))) (some s)) := grown_setCell V ⟨s, 0, none⟩ (.int .i64 (v[0].toNat : Nat))
  have HP : Hid (CellsAt (V.setCell ⟨s, 0, none⟩ (.int .i64 (v[0].toNat : Nat))) s ({ a with origin := (v[0].toNat : Nat) } : Atr).ar 40) := HC.out.setAt 0 _
  have HQ : Hid (CellsAt (V.setCell ⟨s, 0, none⟩ (.int .i64 (v[0].toNat : Nat))) (s + 1 + 1) noAtr.ar 40) := HZ.out.row HGP.out (by omega)
  have HBP : Hid (Below w.heap.size w (V.setCell ⟨s, 0, none⟩ (.int .i64 (v[0].toNat : Nat)))) := HB.out.grown HGP.out HB.out.size (fun k hk => by cases hk; exact Nat.le_of_eq HS.out.symm)
  go_wp2_with (with_reducible show wpList _ _ _ (_ :: _) _ _; first | refine wpList_load_attrs rfl (.tmp 3) rfl s rfl { a with origin := (v[0].toNat : Nat) } HP.out ?_ | refine wpList_store_attrs rfl (.tmp 6) (.tmp 119) rfl (s + 1 + 1) rfl { a with origin := (v[0].toNat : Nat) } rfl noAtr HQ.out ?_)
  have HF : Hid (CellsAt ((V.setCell ⟨s, 0, none⟩ (.int .i64 (v[0].toNat : Nat))).setRow (s + 1 + 1) ({ a with origin := (v[0].toNat : Nat) } : Atr).ar) (s + 1 + 1) ({ a with origin := (v[0].toNat : Nat) } : Atr).ar 40) := HQ.out.setRow' _
  have HBF : Hid (Below w.heap.size w ((V.setCell ⟨s, 0, none⟩ (.int .i64 (v[0].toNat : Nat))).setRow (s + 1 + 1) ({ a with origin := (v[0].toNat : Nat) } : Atr).ar)) := HBP.out.grown (grown_setRow' _ _ _) HBP.out.size (fun k hk => by cases hk; have := HS.out; omega)
  exact bodyPost_ret (results_at2 rfl _ _ (s + 1 + 1) { a with origin := (v[0].toNat : Nat) } (.bool true) rfl rfl HF.out) rfl ⟨by
    rw [HQQ.out]
    exact ⟨_, rfl, { AtO.below HAT.out HBF.out with ofit := by show (-9223372036854775808 : Int) ≤ (v[0].toNat : Nat) ∧ ((v[0].toNat : Nat) : Int) ≤ 9223372036854775807; have := v[0].toNat_lt; omega }, rfl⟩, HBF.out⟩
set_option maxRecDepth 100000 in
set_option maxHeartbeats 8000000 in
theorem rtake_2 (a : Atr) (f : UInt8) (v : ByteArray) (four : Bool) (w : World) (base : Nat) (hbs : base ≤ w.heap.size) (ha : AtO w base a) (hv : v.size ≤ 1048576) :
    Calls Tryz.prog 91 #[.agg a.ar, .agg #[.int .u8 f.toNat, .int .u8 2, .string v], .bool four] w fun e w' => RTPost base (tab 2 v four a.c) w' e ∧ Below w.heap.size w w' := by
  have HAT := Lib.hid ha
  have HDEC : Hid (∀ W, Calls Tryz.prog 118 #[.string v, .bool four] W fun e w' => PathPost W.heap.size (decP four v) w' e ∧ Below W.heap.size W w') := fun W => by
    cases four with
    | true => exact rdecode_four v W hv
    | false => exact rdecode_two v W hv
  have HQN : Hid (decP four v = none → (tab 2 v four a.c).2 = false) := fun h => by show (take2 v four a.c).2 = false; unfold take2; rw [h]
  have HQS : Hid (∀ l, decP four v = some l → tab 2 v four a.c = ({ a.c with path := l }, true)) := fun l h => by show take2 v four a.c = _; unfold take2; rw [h]
  generalize tab 2 v four a.c = RES at HQN HQS ⊢
  generalize decP four v = DP at HDEC HQN HQS
  go_enter Tryz.func91, Tryz.ntmps91
  go_upto_region 1 with fail
  refine wp_name fun V hV => ?_
  obtain ⟨s, hs⟩ : ∃ s, s = w.heap.size := ⟨_, rfl⟩
  have HC : Hid (CellsAt V s a.ar 40) := by rw [hV, hs]; exact ((CellsAt.new _ _ _).alloc _).alloc _
  have HR : Hid (CellsAt V (s + 1) #[.int .u8 f.toNat, .int .u8 2, .string v] 32) := by rw [hV, hs]; exact new2 _ _ _ _ _
  have HZ : Hid (CellsAt V (s + 1 + 1) noAtr.ar 40) := by rw [hV, hs]; exact new3 _ _ _ _ _
  have HB : Hid (Below w.heap.size w V) := by rw [hV]; exact below3 _ _ _ _
  have HS : Hid (s = w.heap.size) := hs
  rw [← hs] at hbs ⊢
  clear hV hs ha
  obtain ⟨r0, r1, r2⟩ := CellsAt.c3 HR.out
  go_wp2_with fail
  refine (HDEC.out _).mono ?_
  rintro e w1 ⟨hpost, hb⟩
  have HC1 : Hid (CellsAt w1 s a.ar 40) := HC.out.below hb HC.out.lt
  have HZ1 : Hid (CellsAt w1 (s + 1 + 1) noAtr.ar 40) := HZ.out.below hb HZ.out.lt
  have HB1 : Hid (Below w.heap.size w w1) := HB.out.trans (hb.mono HB.out.size)
  cases DP with
  | none =>
    have HQF : Hid (RES.2 = false) := HQN.out rfl
    obtain rfl : e = .returned (.tuple #[.slice none 0 0, .int .i64 4]) := hpost
    clear hb
    have HP := HC1
    have HQ := HZ1
    have HBP := HB1
    go_wp2_with (with_reducible show wpList _ _ _ (_ :: _) _ _; first | refine wpList_load_attrs rfl (.tmp 3) rfl s rfl a HP.out ?_ | refine wpList_store_attrs rfl (.tmp 6) (.tmp 41) rfl (s + 1 + 1) rfl a rfl noAtr HQ.out ?_)
    have HF : Hid (CellsAt ((w1).setRow (s + 1 + 1) (a : Atr).ar) (s + 1 + 1) (a : Atr).ar 40) := HQ.out.setRow' _
    have HBF : Hid (Below w.heap.size w ((w1).setRow (s + 1 + 1) (a : Atr).ar)) := HBP.out.grown (grown_setRow' _ _ _) HBP.out.size (fun k hk => by cases hk; have := HS.out; omega)
    exact bodyPost_ret (results_at2 rfl _ _ (s + 1 + 1) a (.bool false) rfl rfl HF.out) rfl ⟨by
      unfold RTPost
      rw [HQF.out]
      exact ⟨_, rfl⟩, HBF.out⟩
  | some l =>
    have HQQ : Hid (RES = ({ a.c with path := l }, true)) := HQS.out l rfl
    obtain ⟨pv, rfl, hso⟩ := hpost
    obtain ⟨segs, q1, q2, q3⟩ := hso.c
    obtain ⟨A, cc, rfl⟩ := q1.form
    have hbV : s + 1 + 1 + 1 ≤ V.heap.size := HZ.out.lt
    have HSG : Hid (SegsO w1 (s + 1 + 1 + 1) (.slice A segs.length cc) segs) := ⟨OwnM.lower q1 hbV, fun y hy => ⟨OwnM.lower (q3 y hy).1 hbV, (q3 y hy).2⟩⟩
    have HSC := Lib.hid q2
    clear hb hso q1 q2 q3
    have c1 := (atr_cells HC1.out).2.1
    have f1 := HC1.out.unfrozen 1
    have HGP : Hid (w1.grownBy (w1.setCell ⟨s, 1, none⟩ (.slice A segs.length cc)) (some s)) := grown_setCell w1 ⟨s, 1, none⟩ (.slice A segs.length cc)
    have HP : Hid (CellsAt (w1.setCell ⟨s, 1, none⟩ (.slice A segs.length cc)) s ({ a with pA := A, segs := segs, pC := cc } : Atr).ar 40) := HC1.out.setAt 1 _
    have HQ : Hid (CellsAt (w1.setCell ⟨s, 1, none⟩ (.slice A segs.length cc)) (s + 1 + 1) noAtr.ar 40) := HZ1.out.row HGP.out (by omega)
    have HBP : Hid (Below w.heap.size w (w1.setCell ⟨s, 1, none⟩ (.slice A segs.length cc))) := HB1.out.grown HGP.out HB1.out.size (fun k hk => by cases hk; exact Nat.le_of_eq HS.out.symm)
    have HPA : Hid (SegsO ((w1.setCell ⟨s, 1, none⟩ (.slice A segs.length cc)).setRow (s + 1 + 1) ({ a with pA := A, segs := segs, pC := cc } : Atr).ar) base (.slice A segs.length cc) segs) := by
      have h := HSG.out.keep (w' := ((w1.setCell ⟨s, 1, none⟩ (.slice A segs.length cc)).setRow (s + 1 + 1) ({ a with pA := A, segs := segs, pC := cc } : Atr).ar)) (fun k h1 _ => (setRow_other _ _ k _ (by omega)).trans (Below.heap_setCell w1 _ _ k (by show k ≠ s; omega)))
      exact ⟨OwnM.lower h.own (by omega), fun y hy => ⟨OwnM.lower (h.as_ y hy).1 (by omega), (h.as_ y hy).2⟩⟩
    go_wp2_with (with_reducible show wpList _ _ _ (_ :: _) _ _; first | refine wpList_load_attrs rfl (.tmp 3) rfl s rfl { a with pA := A, segs := segs, pC := cc } HP.out ?_ | refine wpList_store_attrs rfl (.tmp 6) (.tmp 119) rfl (s + 1 + 1) rfl { a with pA := A, segs := segs, pC := cc } rfl noAtr HQ.out ?_)
    have HF : Hid (CellsAt ((w1.setCell ⟨s, 1, none⟩ (.slice A segs.length cc)).setRow (s + 1 + 1) ({ a with pA := A, segs := segs, pC := cc } : Atr).ar) (s + 1 + 1) ({ a with pA := A, segs := segs, pC := cc } : Atr).ar 40) := HQ.out.setRow' _
    have HBF : Hid (Below w.heap.size w ((w1.setCell ⟨s, 1, none⟩ (.slice A segs.length cc)).setRow (s + 1 + 1) ({ a with pA := A, segs := segs, pC := cc } : Atr).ar)) := HBP.out.grown (grown_setRow' _ _ _) HBP.out.size (fun k hk => by cases hk; have := HS.out; omega)
    exact bodyPost_ret (results_at2 rfl _ _ (s + 1 + 1) { a with pA := A, segs := segs, pC := cc } (.bool true) rfl rfl HF.out) rfl ⟨by
      rw [HQQ.out]
      exact ⟨_, rfl, { AtO.below HAT.out HBF.out with path := HPA.out }, by rw [← HSC.out]; rfl⟩, HBF.out⟩
set_option maxRecDepth 100000 in
set_option maxHeartbeats 8000000 in
theorem rtake_7 (a : Atr) (f : UInt8) (v : ByteArray) (four : Bool) (w : World) (base : Nat) (hbs : base ≤ w.heap.size) (ha : AtO w base a) (hv : v.size ≤ 1048576) :
    Calls Tryz.prog 91 #[.agg a.ar, .agg #[.int .u8 f.toNat, .int .u8 7, .string v], .bool four] w fun e w' => RTPost base (tab 7 v four a.c) w' e ∧ Below w.heap.size w w' := by
  have HAT := Lib.hid ha
  obtain ⟨sz, hsz⟩ : ∃ sz, sz = sizeOf4 four := ⟨_, rfl⟩
  have hsz2 : sz = 2 ∨ sz = 4 := by rw [hsz]; exact sizeOf4_cases four
  have HT0 : Hid (tab 7 v four a.c = if v.size = sz + 4 ∧ hd v sz ≠ 0 then ({ a.c with aggAs := hd v sz, aggId := hd (nx v sz) 4 }, true) else (a.c, false)) := by show take7 v four a.c = _; rw [hsz]; rfl
  generalize tab 7 v four a.c = RES at HT0 ⊢
  have HSZ := Lib.hid hsz
  obtain ⟨m, hm⟩ : ∃ m, m = sz + 4 := ⟨_, rfl⟩
  have vm : IntKind.i64.wrap ((sz : Int) + 4) = (m : Nat) := by rw [IntWalk.i64_in _ (by omega)]; omega
  clear hsz
  by_cases h1 : v.size = m
  case neg =>
    have HQF : Hid (RES.2 = false) := by show _ = _; rw [HT0.out, if_neg (fun e => h1 (by rw [hm]; exact e.1))]
    have z1 : ((v.size : Int) != (m : Int)) = true := bne_iff_ne.2 (by omega)
    clear h1 hm hsz2
    go_enter Tryz.func91, Tryz.ntmps91
    go_upto_region 1 with fail
    refine wp_name fun V hV => ?_
    obtain ⟨s, hs⟩ : ∃ s, s = w.heap.size := ⟨_, rfl⟩
    have HC : Hid (CellsAt V s a.ar 40) := by rw [hV, hs]; exact ((CellsAt.new _ _ _).alloc _).alloc _
    have HR : Hid (CellsAt V (s + 1) #[.int .u8 f.toNat, .int .u8 7, .string v] 32) := by rw [hV, hs]; exact new2 _ _ _ _ _
    have HZ : Hid (CellsAt V (s + 1 + 1) noAtr.ar 40) := by rw [hV, hs]; exact new3 _ _ _ _ _
    have HB : Hid (Below w.heap.size w V) := by rw [hV]; exact below3 _ _ _ _
    have HS : Hid (s = w.heap.size) := hs
    rw [← hs] at hbs ⊢
    clear hV hs ha
    obtain ⟨r0, r1, r2⟩ := CellsAt.c3 HR.out
    go_upto_if 82 with fail
    go_cut [11] (fun n wx => n = .int .i64 (sz : Nat) ∧ V = wx)
    case first =>
      cases four with
      | true =>
        go_wp2_with fail
        go_meet
        exact ⟨by rw [HSZ.out]; rfl, rfl⟩
      | false =>
        go_wp2_with fail
        go_meet
        exact ⟨by rw [HSZ.out]; rfl, rfl⟩
    case rest =>
    obtain ⟨rfl, rfl⟩ := hcut
    have HP := HC
    have HQ := HZ
    have HBP := HB
    go_wp2_with (with_reducible show wpList _ _ _ (_ :: _) _ _; first | refine wpList_load_attrs rfl (.tmp 3) rfl s rfl a HP.out ?_ | refine wpList_store_attrs rfl (.tmp 6) (.tmp 95) rfl (s + 1 + 1) rfl a rfl noAtr HQ.out ?_)
    have HF : Hid (CellsAt ((V).setRow (s + 1 + 1) (a : Atr).ar) (s + 1 + 1) (a : Atr).ar 40) := HQ.out.setRow' _
    have HBF : Hid (Below w.heap.size w ((V).setRow (s + 1 + 1) (a : Atr).ar)) := HBP.out.grown (grown_setRow' _ _ _) HBP.out.size (fun k hk => by cases hk; have := HS.out; omega)
    exact bodyPost_ret (results_at2 rfl _ _ (s + 1 + 1) a (.bool false) rfl rfl HF.out) rfl ⟨by
      unfold RTPost
      rw [HQF.out]
      exact ⟨_, rfl⟩, HBF.out⟩
  have z1 : ((v.size : Int) != (m : Int)) = false := by simp; omega
  obtain ⟨x, hx⟩ : ∃ x, x = hd v sz := ⟨_, rfl⟩
  obtain ⟨y, hy⟩ : ∃ y, y = hd (nx v sz) 4 := ⟨_, rfl⟩
  have HV1 : Hid (∀ W, Calls Tryz.prog 37 #[.string (v.extract 0 sz)] W fun e w' => e = .returned (.int .u64 (x : Nat)) ∧ w' = W) := fun W => by
    have h := rvalue_any (v.extract 0 sz) W (by rw [ByteArray.size_extract]; omega)
    have h2 : beVal (v.extract 0 sz).data.toList = x := by rw [hx]; unfold hd; rw [ext_list]; rfl
    rwa [h2] at h
  have HV2 : Hid (∀ W, Calls Tryz.prog 37 #[.string (v.extract sz v.size)] W fun e w' => e = .returned (.int .u64 (y : Nat)) ∧ w' = W) := fun W => by
    have h := rvalue_any (v.extract sz v.size) W (by rw [ByteArray.size_extract]; omega)
    have h2 : beVal (v.extract sz v.size).data.toList = y := by
      rw [hy]
      unfold hd
      rw [show v.extract sz v.size = nx v sz from rfl, List.take_of_length_le (by show (nx v sz).data.toList.length ≤ 4; rw [show (nx v sz).data.toList.length = (nx v sz).size from rfl, nx_size]; omega)]
    rwa [h2] at h
  have hx4 : x < 4294967296 := by
    rw [hx]
    rcases hsz2 with e | e
    · exact Nat.lt_of_lt_of_le (hd_lt v sz) (by rw [e]; decide)
    · exact Nat.lt_of_lt_of_le (hd_lt v sz) (by rw [e]; decide)
  have hy4 : y < 4294967296 := by rw [hy]; exact hd_u32 _
  have hb1 : (sz : Int) ≤ (v.size : Int) := by omega
  rw [← hx, ← hy] at HT0
  by_cases h2 : x = 0
  case pos =>
    have HQF : Hid (RES.2 = false) := by show _ = _; rw [HT0.out, if_neg (fun e => e.2 h2)]
    have z2 : ((x : Int) == 0) = true := beq_iff_eq.2 (by omega)
    clear h1 h2 hm hsz2 hx hy
    go_enter Tryz.func91, Tryz.ntmps91
    go_upto_region 1 with fail
    refine wp_name fun V hV => ?_
    obtain ⟨s, hs⟩ : ∃ s, s = w.heap.size := ⟨_, rfl⟩
    have HC : Hid (CellsAt V s a.ar 40) := by rw [hV, hs]; exact ((CellsAt.new _ _ _).alloc _).alloc _
    have HR : Hid (CellsAt V (s + 1) #[.int .u8 f.toNat, .int .u8 7, .string v] 32) := by rw [hV, hs]; exact new2 _ _ _ _ _
    have HZ : Hid (CellsAt V (s + 1 + 1) noAtr.ar 40) := by rw [hV, hs]; exact new3 _ _ _ _ _
    have HB : Hid (Below w.heap.size w V) := by rw [hV]; exact below3 _ _ _ _
    have HS : Hid (s = w.heap.size) := hs
    rw [← hs] at hbs ⊢
    clear hV hs ha
    obtain ⟨r0, r1, r2⟩ := CellsAt.c3 HR.out
    go_upto_if 82 with fail
    go_cut [11] (fun n wx => n = .int .i64 (sz : Nat) ∧ V = wx)
    case first =>
      cases four with
      | true =>
        go_wp2_with fail
        go_meet
        exact ⟨by rw [HSZ.out]; rfl, rfl⟩
      | false =>
        go_wp2_with fail
        go_meet
        exact ⟨by rw [HSZ.out]; rfl, rfl⟩
    case rest =>
    obtain ⟨rfl, rfl⟩ := hcut
    go_wp2_with fail
    refine (HV1.out _).mono ?_
    rintro e w2 ⟨rfl, hw2⟩
    subst w2
    have HP := HC
    have HQ := HZ
    have HBP := HB
    go_wp2_with (with_reducible show wpList _ _ _ (_ :: _) _ _; first | refine wpList_load_attrs rfl (.tmp 3) rfl s rfl a HP.out ?_ | refine wpList_store_attrs rfl (.tmp 6) (.tmp 95) rfl (s + 1 + 1) rfl a rfl noAtr HQ.out ?_)
    have HF : Hid (CellsAt ((V).setRow (s + 1 + 1) (a : Atr).ar) (s + 1 + 1) (a : Atr).ar 40) := HQ.out.setRow' _
    have HBF : Hid (Below w.heap.size w ((V).setRow (s + 1 + 1) (a : Atr).ar)) := HBP.out.grown (grown_setRow' _ _ _) HBP.out.size (fun k hk => by cases hk; have := HS.out; omega)
    exact bodyPost_ret (results_at2 rfl _ _ (s + 1 + 1) a (.bool false) rfl rfl HF.out) rfl ⟨by
      unfold RTPost
      rw [HQF.out]
      exact ⟨_, rfl⟩, HBF.out⟩
  have HQQ : Hid (RES = ({ a.c with aggAs := x, aggId := y }, true)) := by show _ = _; rw [HT0.out, if_pos ⟨by omega, h2⟩]
  have z2 : ((x : Int) == 0) = false := beq_eq_false_iff_ne.2 (by omega)
  have v3 : IntKind.u32.wrap ((x : Nat) : Int) = ((x : Nat) : Int) := by rw [IntKind.wrap_u32]; omega
  have v4 : IntKind.u32.wrap ((y : Nat) : Int) = ((y : Nat) : Int) := by rw [IntKind.wrap_u32]; omega
  clear h1 h2 hm hsz2 hx hy
  go_enter Tryz.func91, Tryz.ntmps91
  go_upto_region 1 with fail
  refine wp_name fun V hV => ?_
  obtain ⟨s, hs⟩ : ∃ s, s = w.heap.size := ⟨_, rfl⟩
  have HC : Hid (CellsAt V s a.ar 40) := by rw [hV, hs]; exact ((CellsAt.new _ _ _).alloc _).alloc _
  have HR : Hid (CellsAt V (s + 1) #[.int .u8 f.toNat, .int .u8 7, .string v] 32) := by rw [hV, hs]; exact new2 _ _ _ _ _
  have HZ : Hid (CellsAt V (s + 1 + 1) noAtr.ar 40) := by rw [hV, hs]; exact new3 _ _ _ _ _
  have HB : Hid (Below w.heap.size w V) := by rw [hV]; exact below3 _ _ _ _
  have HS : Hid (s = w.heap.size) := hs
  rw [← hs] at hbs ⊢
  clear hV hs ha
  obtain ⟨r0, r1, r2⟩ := CellsAt.c3 HR.out
  go_upto_if 82 with fail
  go_cut [11] (fun n wx => n = .int .i64 (sz : Nat) ∧ V = wx)
  case first =>
    cases four with
    | true =>
      go_wp2_with fail
      go_meet
      exact ⟨by rw [HSZ.out]; rfl, rfl⟩
    | false =>
      go_wp2_with fail
      go_meet
      exact ⟨by rw [HSZ.out]; rfl, rfl⟩
  case rest =>
  obtain ⟨rfl, rfl⟩ := hcut
  obtain ⟨c0, c1, c2, c3, c4, c5, c6, c7, c8, c9, c10, c11, c12, c13, c14, c15⟩ := atr_cells HC.out
  have f1 := HC.out.unfrozen 8
  have f2 := HC.out.unfrozen 9
  clear c0 c1 c2 c3 c4 c5 c6 c7 c10 c11 c12 c13 c14 c15
  go_wp2_with fail
  refine (HV1.out _).mono ?_
  rintro e w2 ⟨rfl, hw2⟩
  subst w2
  go_wp2_with fail
  refine (HV1.out _).mono ?_
  rintro e w2 ⟨rfl, hw2⟩
  subst w2
  go_wp2_with fail
  refine (HV2.out _).mono ?_
  rintro e w3 ⟨rfl, hw3⟩
  subst w3
  have HGP : Hid (V.grownBy ((V.setCell ⟨s, 8, none⟩ (.int .u32 (x : Nat))).setCell ⟨s, 9, none⟩ (.int .u32 (y : Nat))) (some s)) := grown_trans (grown_setCell V ⟨s, 8, none⟩ (.int .u32 (x : Nat))) (grown_setCell _ ⟨s, 9, none⟩ (.int .u32 (y : Nat)))
  have HP : Hid (CellsAt ((V.setCell ⟨s, 8, none⟩ (.int .u32 (x : Nat))).setCell ⟨s, 9, none⟩ (.int .u32 (y : Nat))) s ({ a with aggAs := x, aggId := y } : Atr).ar 40) := (HC.out.setAt 8 _).setAt 9 _
  have HQ : Hid (CellsAt ((V.setCell ⟨s, 8, none⟩ (.int .u32 (x : Nat))).setCell ⟨s, 9, none⟩ (.int .u32 (y : Nat))) (s + 1 + 1) noAtr.ar 40) := HZ.out.row HGP.out (by omega)
  have HBP : Hid (Below w.heap.size w ((V.setCell ⟨s, 8, none⟩ (.int .u32 (x : Nat))).setCell ⟨s, 9, none⟩ (.int .u32 (y : Nat)))) := HB.out.grown HGP.out HB.out.size (fun k hk => by cases hk; exact Nat.le_of_eq HS.out.symm)
  go_wp2_with (with_reducible show wpList _ _ _ (_ :: _) _ _; first | refine wpList_load_attrs rfl (.tmp 3) rfl s rfl { a with aggAs := x, aggId := y } HP.out ?_ | refine wpList_store_attrs rfl (.tmp 6) (.tmp 119) rfl (s + 1 + 1) rfl { a with aggAs := x, aggId := y } rfl noAtr HQ.out ?_)
  have HF : Hid (CellsAt (((V.setCell ⟨s, 8, none⟩ (.int .u32 (x : Nat))).setCell ⟨s, 9, none⟩ (.int .u32 (y : Nat))).setRow (s + 1 + 1) ({ a with aggAs := x, aggId := y } : Atr).ar) (s + 1 + 1) ({ a with aggAs := x, aggId := y } : Atr).ar 40) := HQ.out.setRow' _
  have HBF : Hid (Below w.heap.size w (((V.setCell ⟨s, 8, none⟩ (.int .u32 (x : Nat))).setCell ⟨s, 9, none⟩ (.int .u32 (y : Nat))).setRow (s + 1 + 1) ({ a with aggAs := x, aggId := y } : Atr).ar)) := HBP.out.grown (grown_setRow' _ _ _) HBP.out.size (fun k hk => by cases hk; have := HS.out; omega)
  have hnf := HAT.out.nfit
  exact bodyPost_ret (results_at2 rfl _ _ (s + 1 + 1) { a with aggAs := x, aggId := y } (.bool true) rfl rfl HF.out) rfl ⟨by
    rw [HQQ.out]
    exact ⟨_, rfl, { AtO.below HAT.out HBF.out with nfit := ⟨hnf.1, hnf.2.1, hx4, hy4, hnf.2.2.2.2⟩ }, rfl⟩, HBF.out⟩
end Go.Proofs.YtkcojblflebomaaGreat
