/-
  Several texts in one.
-/
import Derived.Test.YtkcojblflebomaaGreatNR49
import Derived.Test.YtkcojblflebomaaGreatNR35
set_option linter.unusedVariables false
set_option linter.unusedSimpArgs false
namespace Go.Proofs.YtkcojblflebomaaGreat
open Go.RowKit Go.MapKept Go.Shelf
open Go.Lib hiding intOf
open Go.Sort hiding Below

theorem rinfoBool : (Tryz.prog.info? 4).map (fun i => (i.zero, i.size, i.bytes)) = some (some (.bool false), 1, 1) := by kernel_rfl
theorem rmk_met (u : World) : (Instr.makeSlice 53 (.int .i64 256) (.int .i64 256)).run Tryz.prog u = .ok (.slice (some ⟨u.heap.size, 0, none⟩) 256 256) (u.alloc (.cells (metA []) 4)) := by
  obtain ⟨i0, hi, hz0, hz1, hz2⟩ := info_parts rinfoBool
  have h := run_make (P := Tryz.prog) u 53 4 i0 (.bool false) Tryz.underlying53 hi hz0 .i64 .i64 256 256 (by omega) (by omega) (by rw [hz2]; omega) (by omega)
  have e : madeCells (Value.cells (.bool false)) ((256 : Int).toNat * i0.size) = metA [] := by
    rw [hz1]
    kernel_rfl
  rw [e] at h
  exact h
theorem metA_again {met : List UInt8} {t : UInt8} (h : met.contains t = true) : metA (t :: met) = metA met := by
  unfold metA
  congr 1
  apply List.map_congr_left
  intro i hi
  congr 1
  rw [List.contains_cons]
  cases e : (UInt8.ofNat i == t) with
  | false => rfl
  | true =>
    rw [beq_iff_eq] at e
    rw [e, h]
    rfl
/-- what Read has in hand: s is where its variables begin -/
structure RQ (w0 : World) (s : Nat) (wr : World) (met : List UInt8) (a : Atr) (v : Vd) : Prop where
  r1 : CellsAt wr s noAtr.ar 40
  r2 : VdAt wr (s + 1) ⟨0, 0, 0⟩
  ac : CellsAt wr (s + 1 + 1) a.ar 40
  vc : VdAt wr (s + 1 + 1 + 1) v
  m : CellsAt wr (s + 1 + 1 + 1 + 1) (metA met) 4
  o : AtO wr (s + 1 + 1 + 1 + 1 + 1) a
  b : Below s w0 wr
theorem RQ.below {w0 wr w' : World} {s : Nat} {met : List UInt8} {a : Atr} {v : Vd} (h : RQ w0 s wr met a v) (hb : Below wr.heap.size wr w') : RQ w0 s w' met a v :=
  ⟨h.r1.below hb h.r1.lt, CellsAt.below h.r2 hb (CellsAt.lt h.r2), h.ac.below hb h.ac.lt, CellsAt.below h.vc hb (CellsAt.lt h.vc), h.m.below hb h.m.lt, AtO.below h.o hb, h.b.trans (hb.mono (Nat.le_of_lt h.r1.lt))⟩
theorem RQ.setA {w0 wr : World} {s : Nat} {met : List UInt8} {a : Atr} {v : Vd} (h : RQ w0 s wr met a v) (p : Atr) (hp : AtO wr (s + 1 + 1 + 1 + 1 + 1) p) : RQ w0 s (wr.setRow (s + 1 + 1) p.ar) met p v :=
  have hg := grown_setRow' wr (s + 1 + 1) p.ar
  ⟨h.r1.row hg (by omega), CellsAt.row h.r2 hg (by omega), h.ac.setRow' _, CellsAt.row h.vc hg (by omega), h.m.row hg (by omega), hp.keep (fun i h1 h2 => hg.block i h2 (fun e => by injection e with e; omega)), h.b.grown hg (Nat.le_of_lt h.r1.lt) (fun k hk => by cases hk; omega)⟩
theorem RQ.setV {w0 wr : World} {s : Nat} {met : List UInt8} {a : Atr} {v : Vd} (h : RQ w0 s wr met a v) (p : Vd) : RQ w0 s (wr.setRow (s + 1 + 1 + 1) p.ar) met a p :=
  have hg := grown_setRow' wr (s + 1 + 1 + 1) p.ar
  ⟨h.r1.row hg (by omega), CellsAt.row h.r2 hg (by omega), h.ac.row hg (by omega), CellsAt.setRow' h.vc _, h.m.row hg (by omega), h.o.keep (fun i h1 h2 => hg.block i h2 (fun e => by injection e with e; omega)), h.b.grown hg (Nat.le_of_lt h.r1.lt) (fun k hk => by cases hk; omega)⟩
theorem RQ.meet {w0 wr : World} {s : Nat} {met : List UInt8} {a : Atr} {v : Vd} (h : RQ w0 s wr met a v) (t : UInt8) : RQ w0 s (wr.setCell ⟨s + 1 + 1 + 1 + 1, t.toNat, none⟩ (.bool true)) (t :: met) a v := by
  have hg : wr.grownBy (wr.setCell ⟨s + 1 + 1 + 1 + 1, t.toNat, none⟩ (.bool true)) (some (s + 1 + 1 + 1 + 1)) := grown_setCell wr ⟨s + 1 + 1 + 1 + 1, t.toNat, none⟩ (.bool true)
  refine ⟨h.r1.row hg (by show s ≠ s + 1 + 1 + 1 + 1; omega), CellsAt.row h.r2 hg (by show s + 1 ≠ s + 1 + 1 + 1 + 1; omega), h.ac.row hg (by show s + 1 + 1 ≠ s + 1 + 1 + 1 + 1; omega), CellsAt.row h.vc hg (by show s + 1 + 1 + 1 ≠ s + 1 + 1 + 1 + 1; omega), ?_, h.o.keep (fun i h1 h2 => hg.block i h2 (fun e => by injection e with e; omega)), Below.setCell h.b (by show s ≤ s + 1 + 1 + 1 + 1; omega) _⟩
  have := h.m.setAt t.toNat (.bool true)
  rwa [metA_set] at this
theorem RQ.again {w0 wr : World} {s : Nat} {met : List UInt8} {a : Atr} {v : Vd} (h : RQ w0 s wr met a v) {t : UInt8} (ht : met.contains t = true) : RQ w0 s wr (t :: met) a v :=
  ⟨h.r1, h.r2, h.ac, h.vc, by rw [metA_again ht]; exact h.m, h.o, h.b⟩
theorem RQ.done {w0 wr : World} {s : Nat} {met : List UInt8} {a : Atr} {v : Vd} (h : RQ w0 s wr met a v) : RE w0 s wr a v :=
  ⟨h.ac, h.vc, ⟨_, h.r1⟩, ⟨_, h.r2⟩, AtO.lower h.o (by omega), h.b⟩
theorem rq_start (w V : World) (hV : V = ((((w.alloc (.cells noAtr.ar 40)).alloc (.cells (Vd.mk 0 0 0).ar 42)).alloc (.cells noAtr.ar 40)).alloc (.cells (Vd.mk 0 0 0).ar 42)).alloc (.cells (metA []) 4)) : RQ w w.heap.size V [] noAtr ⟨0, 0, 0⟩ := by
  subst hV
  have e1 : (w.alloc (.cells noAtr.ar 40)).heap.size = w.heap.size + 1 := by simp
  have e2 : ((w.alloc (.cells noAtr.ar 40)).alloc (.cells (Vd.mk 0 0 0).ar 42)).heap.size = w.heap.size + 1 + 1 := by simp
  have e3 : (((w.alloc (.cells noAtr.ar 40)).alloc (.cells (Vd.mk 0 0 0).ar 42)).alloc (.cells noAtr.ar 40)).heap.size = w.heap.size + 1 + 1 + 1 := by simp
  have e4 : ((((w.alloc (.cells noAtr.ar 40)).alloc (.cells (Vd.mk 0 0 0).ar 42)).alloc (.cells noAtr.ar 40)).alloc (.cells (Vd.mk 0 0 0).ar 42)).heap.size = w.heap.size + 1 + 1 + 1 + 1 := by simp
  refine ⟨((((CellsAt.new _ _ _).alloc _).alloc _).alloc _).alloc _, ?_, ?_, ?_, ?_, noAtr_own _ _, ?_⟩
  · have h := CellsAt.new (w.alloc (.cells noAtr.ar 40)) (Vd.mk 0 0 0).ar 42
    rw [e1] at h
    exact ((h.alloc _).alloc _).alloc _
  · have h := CellsAt.new ((w.alloc (.cells noAtr.ar 40)).alloc (.cells (Vd.mk 0 0 0).ar 42)) noAtr.ar 40
    rw [e2] at h
    exact (h.alloc _).alloc _
  · have h := CellsAt.new (((w.alloc (.cells noAtr.ar 40)).alloc (.cells (Vd.mk 0 0 0).ar 42)).alloc (.cells noAtr.ar 40)) (Vd.mk 0 0 0).ar 42
    rw [e3] at h
    exact h.alloc _
  · have h := CellsAt.new ((((w.alloc (.cells noAtr.ar 40)).alloc (.cells (Vd.mk 0 0 0).ar 42)).alloc (.cells noAtr.ar 40)).alloc (.cells (Vd.mk 0 0 0).ar 42)) (metA []) 4
    rw [e4] at h
    exact h
  · exact (((((Below.refl _ _).alloc (Nat.le_refl _) _).alloc (by simp) _).alloc (by simp; omega) _).alloc (by simp; omega) _).alloc (by simp; omega) _
theorem refF_at {four internal : Bool} {met : List UInt8} {c : AtC} {v : Vd} {x : Rw} {L : List Rw} {k : Nat} (hx : L[k]? = some x) : refF four internal met c v (L.drop k) = refF four internal (x.t :: met) (refStep four internal met c v x).1 (refStep four internal met c v x).2 (L.drop (k + 1)) := by
  obtain ⟨hlt, h⟩ := List.getElem?_eq_some_iff.1 hx
  rw [List.drop_eq_getElem_cons hlt, h]
  rfl
set_option maxRecDepth 100000 in
set_option maxHeartbeats 16000000 in
theorem rread_any (A : Option Addr) (cap : Nat) (L : List Rw) (four internal : Bool) (w : World) (h : RwsOk w A cap L) (hsz : ∀ r ∈ L, r.v.size ≤ 1048576) :
    Calls Tryz.prog 20 #[.slice A L.length cap, .bool four, .bool internal] w fun e w' => ReadPost w.heap.size (refF four internal [] noC ⟨0, 0, 0⟩ L) w' e ∧ Below w.heap.size w w' := by
  have HR := Lib.hid h
  have hl := h.len
  have hc := h.cap
  have HSZ := Lib.hid hsz
  have HW := Lib.hid rworse_any
  have HONE : Hid (∀ (a : Atr) (x : Rw) (W : World) (base : Nat), base ≤ W.heap.size → AtO W base a → x.v.size ≤ 1048576 → Calls Tryz.prog 41 #[.agg a.ar, .agg #[.int .u8 x.f.toNat, .int .u8 x.t.toNat, .string x.v], .bool four, .bool internal] W fun e w' => (∃ a' : Atr, e = .returned (.tuple #[.agg a'.ar, .agg #[.int .i64 (refV four internal x).act, .int .u8 (refV four internal x).code, .int .u8 (refV four internal x).sub]]) ∧ AtO w' base a' ∧ a'.c = refC four internal x a.c) ∧ Below W.heap.size W w') := fun a x W base h1 h2 h3 => rone_any a x four internal W base h1 h2 h3
  have hmk := rmk_met
  clear h hsz
  generalize hres : refF four internal [] noC ⟨0, 0, 0⟩ L = res
  have HRES := Lib.hid hres
  clear hres
  go_enter Tryz.func20, Tryz.ntmps20
  go_upto_region 5 with fail
  refine wp_name fun V hV => ?_
  have HS : Hid (RQ w w.heap.size V [] noAtr ⟨0, 0, 0⟩) := rq_start w V hV
  clear hV hmk
  go_wp2_with fail
  go_loopw [11] (fun i wr => ∃ (k : Nat) (met : List UInt8) (a : Atr) (v : Vd), k ≤ L.length ∧ i = .int .i64 k ∧ Hid (RQ w w.heap.size wr met a v) ∧ Hid (res = refF four internal met a.c v (L.drop k))) (fun i _ => L.length + 1 - (intOf i).toNat)
  case atStart => exact ⟨0, [], noAtr, ⟨0, 0, 0⟩, by omega, rfl, HS.out, HRES.out.symm⟩
  case round =>
    clear HS HRES
    obtain ⟨k, met, a, v, hk, rfl, HRS, HRF⟩ := hrel
    by_cases hlt : k < L.length
    · obtain ⟨x, hx⟩ : ∃ x, L[k]? = some x := ⟨L[k], List.getElem?_eq_getElem hlt⟩
      have hmem := List.mem_of_getElem? hx
      obtain ⟨b, off, rfl, hb, c0, c1, c2⟩ := rw_at (HR.out.below HRS.out.b (Nat.le_refl _)).rd hx
      have HSZX : Hid (x.v.size ≤ 1048576) := HSZ.out x hmem
      have HRF2 : Hid (res = refF four internal (x.t :: met) (refStep four internal met a.c v x).1 (refStep four internal met a.c v x).2 (L.drop (k + 1))) := HRF.out.trans (refF_at hx)
      clear hx hmem HRF
      have HS1 : Hid (RQ w w.heap.size (wr.alloc (.cells #[.int .u8 x.f.toNat, .int .u8 x.t.toNat, .string x.v] 32)) met a v) := HRS.out.below ((Below.refl _ _).alloc (Nat.le_refl _) _)
      have HX1 : Hid (CellsAt (wr.alloc (.cells #[.int .u8 x.f.toNat, .int .u8 x.t.toNat, .string x.v] 32)) wr.heap.size #[.int .u8 x.f.toNat, .int .u8 x.t.toNat, .string x.v] 32) := CellsAt.new _ _ _
      have hml := HRS.out.m.lt
      have ht256 : (x.t.toNat : Int) < 256 := by have := x.t.toNat_lt; omega
      have ht0 : (0 : Int) ≤ x.t.toNat := by omega
      obtain ⟨again, hag⟩ : ∃ q, q = met.contains x.t := ⟨_, rfl⟩
      go_upto_region 8 with fail
      refine wp_name fun V1 hV1 => ?_
      rw [← hV1] at HS1 HX1
      obtain ⟨g, hg⟩ : ∃ g, g = wr.heap.size := ⟨_, rfl⟩
      rw [← hg] at HX1 hml ⊢
      have HGL : Hid (w.heap.size + 1 + 1 + 1 + 1 < g) := hml
      clear c0 c1 c2 hb hV1 hg hml HRS
      have cm := (HS1.out.m.c x.t.toNat).trans (metA_at met x.t)
      have fm := HS1.out.m.unfrozen x.t.toNat
      rw [← hag] at cm
      have HAG : Hid (met.contains x.t = again) := hag.symm
      clear hag
      obtain ⟨d0, d1, d2⟩ := HX1.out.c3
      cases again with
      | true =>
        have HQ : Hid (refStep four internal met a.c v x = (a.c, if x.t.toNat = 14 ∨ x.t.toNat = 15 then judgeF v ⟨3, 3, 1⟩ else v)) := by
          show _ = _
          unfold refStep
          rw [if_pos HAG.out]
        have HS2 : Hid (RQ w w.heap.size V1 (x.t :: met) a v) := HS1.out.again HAG.out
        have hv4 := HS1.out.m.lt
        clear HS1
        by_cases h14 : x.t.toNat = 14 ∨ x.t.toNat = 15
        · rw [if_pos h14] at HQ
          obtain ⟨v0, v1, v2⟩ := CellsAt.c3 HS2.out.vc
          rcases h14 with h | h
          · have z14 : ((x.t.toNat : Int) == 14) = true := beq_iff_eq.2 (by omega)
            have z15 : ((x.t.toNat : Int) == 15) = false := beq_eq_false_iff_ne.2 (by omega)
            clear h
            go_wp2_with fail
            refine (HW.out v ⟨3, 3, 1⟩ _).mono ?_
            rintro e V6 ⟨rfl, hb6⟩
            have HS6 : Hid (RQ w w.heap.size V6 (x.t :: met) a v) := HS2.out.below hb6
            have HVV : Hid (CellsAt V6 (w.heap.size + 1 + 1 + 1) #[.int .i64 v.act, .int .u8 v.code, .int .u8 v.sub] 42) := HS6.out.vc
            generalize judgeF v ⟨3, 3, 1⟩ = jv at HQ ⊢
            clear hb6 HS2 v0 v1 v2
            go_wp2_with (with_reducible show wpList _ _ _ (_ :: _) _ _; refine wpList_store_verdict rfl (.tmp 9) (.tmp 41) rfl (w.heap.size + 1 + 1 + 1) rfl jv rfl v HVV.out ?_)
            have HS7 : Hid (RQ w w.heap.size (V6.setRow (w.heap.size + 1 + 1 + 1) jv.ar) (x.t :: met) a jv) := HS6.out.setV jv
            exact ⟨⟨k + 1, x.t :: met, a, jv, by omega, by go_num, HS7.out, by rw [HRF2.out, HQ.out]; show _ = _; rfl⟩, by simp [intOf]; omega⟩
          · have z14 : ((x.t.toNat : Int) == 14) = false := beq_eq_false_iff_ne.2 (by omega)
            have z15 : ((x.t.toNat : Int) == 15) = true := beq_iff_eq.2 (by omega)
            clear h
            go_wp2_with fail
            refine (HW.out v ⟨3, 3, 1⟩ _).mono ?_
            rintro e V6 ⟨rfl, hb6⟩
            have HS6 : Hid (RQ w w.heap.size V6 (x.t :: met) a v) := HS2.out.below hb6
            have HVV : Hid (CellsAt V6 (w.heap.size + 1 + 1 + 1) #[.int .i64 v.act, .int .u8 v.code, .int .u8 v.sub] 42) := HS6.out.vc
            generalize judgeF v ⟨3, 3, 1⟩ = jv at HQ ⊢
            clear hb6 HS2 v0 v1 v2
            go_wp2_with (with_reducible show wpList _ _ _ (_ :: _) _ _; refine wpList_store_verdict rfl (.tmp 9) (.tmp 41) rfl (w.heap.size + 1 + 1 + 1) rfl jv rfl v HVV.out ?_)
            have HS7 : Hid (RQ w w.heap.size (V6.setRow (w.heap.size + 1 + 1 + 1) jv.ar) (x.t :: met) a jv) := HS6.out.setV jv
            exact ⟨⟨k + 1, x.t :: met, a, jv, by omega, by go_num, HS7.out, by rw [HRF2.out, HQ.out]; show _ = _; rfl⟩, by simp [intOf]; omega⟩
        · rw [if_neg h14] at HQ
          have z14 : ((x.t.toNat : Int) == 14) = false := beq_eq_false_iff_ne.2 (by omega)
          have z15 : ((x.t.toNat : Int) == 15) = false := beq_eq_false_iff_ne.2 (by omega)
          clear h14
          go_wp2_with fail
          exact ⟨⟨k + 1, x.t :: met, a, v, by omega, by go_num, HS2.out, by rw [HRF2.out, HQ.out]; show _ = _; rfl⟩, by simp [intOf]; omega⟩
      | false =>
        have HQ : Hid (refStep four internal met a.c v x = (refC four internal x a.c, judgeF v (refV four internal x))) := by
          show _ = _
          unfold refStep
          rw [if_neg (by rw [HAG.out]; simp)]
        have HO := Lib.hid (fun W base h1 h2 => HONE.out a x W base h1 h2 HSZX.out)
        generalize refV four internal x = rv at HQ HO
        obtain ⟨ra, rc, rs⟩ := rv
        generalize refC four internal x a.c = RC at HQ HO
        have hgs : Hid (V1.grownBy (V1.setCell ⟨w.heap.size + 1 + 1 + 1 + 1, x.t.toNat, none⟩ (.bool true)) (some (w.heap.size + 1 + 1 + 1 + 1))) := grown_setCell V1 ⟨w.heap.size + 1 + 1 + 1 + 1, x.t.toNat, none⟩ (.bool true)
        have HX2 : Hid (CellsAt (V1.setCell ⟨w.heap.size + 1 + 1 + 1 + 1, x.t.toNat, none⟩ (.bool true)) g #[.int .u8 x.f.toNat, .int .u8 x.t.toNat, .string x.v] 32) := HX1.out.row hgs.out (by have := HGL.out; omega)
        have HS2 : Hid (RQ w w.heap.size (V1.setCell ⟨w.heap.size + 1 + 1 + 1 + 1, x.t.toNat, none⟩ (.bool true)) (x.t :: met) a v) := HS1.out.meet x.t
        go_upto_region 12 with fail
        refine wp_name fun V2 hV2 => ?_
        rw [← hV2] at HS2 HX2
        clear hV2 hgs HS1 HX1 cm fm d0 d1 d2
        obtain ⟨d0, d1, d2⟩ := HX2.out.c3
        have hsz2 := HS2.out.m.lt
        go_wp2_with (with_reducible show wpList _ _ _ (_ :: _) _ _; refine wpList_load_attrs rfl (.tmp 8) rfl (w.heap.size + 1 + 1) rfl a HS2.out.ac ?_)
        refine (HO.out _ (w.heap.size + 1 + 1 + 1 + 1 + 1) (by omega) HS2.out.o).mono ?_
        rintro e V3 ⟨⟨a2, rfl, ho3, hac⟩, hb3⟩
        have HS3 : Hid (RQ w w.heap.size V3 (x.t :: met) a v) := HS2.out.below hb3
        have HO3 := Lib.hid ho3
        have HAC : Hid (a2.c = RC) := hac
        clear hb3 ho3 hac HS2 HX2 d0 d1 d2 hsz2 HO
        go_upto_region 13 with (with_reducible show wpList _ _ _ (_ :: _) _ _; first | refine wpList_store_attrs rfl (.tmp 13) (.tmp 52) rfl V3.heap.size rfl a2 rfl noAtr (rd_z _ _) ?_ | refine wpList_store_verdict rfl (.tmp 14) (.tmp 53) rfl (V3.heap.size + 1) rfl ⟨ra, rc, rs⟩ rfl ⟨0, 0, 0⟩ (rd_y _ _ _) ?_)
        refine wp_name fun V4 hV4 => ?_
        have HB4 : Hid (Below V3.heap.size V3 V4) := by rw [hV4]; exact rd_b _ _ _ ⟨ra, rc, rs⟩
        have HC4 : Hid (CellsAt V4 V3.heap.size a2.ar 40) := by rw [hV4]; exact rd_a _ _ _ ⟨ra, rc, rs⟩
        have HV4 : Hid (CellsAt V4 (V3.heap.size + 1) #[.int .i64 ra, .int .u8 rc, .int .u8 rs] 42) := by rw [hV4]; exact rd_v _ _ _ ⟨ra, rc, rs⟩
        have HS4 : Hid (RQ w w.heap.size V4 (x.t :: met) a v) := HS3.out.below HB4.out
        have HO4 : Hid (AtO V4 (w.heap.size + 1 + 1 + 1 + 1 + 1) a2) := AtO.below HO3.out HB4.out
        have hs3 := HS3.out.m.lt
        obtain ⟨q3, hq3⟩ : ∃ q3, q3 = V3.heap.size := ⟨_, rfl⟩
        rw [← hq3] at HC4 HV4 hs3 ⊢
        have HQ3 : Hid (w.heap.size + 1 + 1 + 1 + 1 < q3) := hs3
        clear hV4 HB4 HS3 HO3 hq3
        go_upto_region 14 with (with_reducible show wpList _ _ _ (_ :: _) _ _; first | refine wpList_load_attrs rfl (.tmp 13) rfl q3 rfl a2 HC4.out ?_ | refine wpList_store_attrs rfl (.tmp 8) (.tmp 54) rfl (w.heap.size + 1 + 1) rfl a2 rfl a HS4.out.ac ?_)
        refine wp_name fun V5 hV5 => ?_
        have HS5 : Hid (RQ w w.heap.size V5 (x.t :: met) a2 v) := by rw [hV5]; exact HS4.out.setA a2 HO4.out
        have HV5 : Hid (CellsAt V5 (q3 + 1) #[.int .i64 ra, .int .u8 rc, .int .u8 rs] 42) := by rw [hV5]; exact HV4.out.row (grown_setRow' _ _ _) (by have := HQ3.out; omega)
        clear hV5 HS4 HO4 HC4 HV4 hs3
        obtain ⟨v0, v1, v2⟩ := CellsAt.c3 HS5.out.vc
        obtain ⟨u0, u1, u2⟩ := CellsAt.c3 HV5.out
        go_wp2_with fail
        refine (HW.out v ⟨ra, rc, rs⟩ _).mono ?_
        rintro e V6 ⟨rfl, hb6⟩
        have HS6 : Hid (RQ w w.heap.size V6 (x.t :: met) a2 v) := HS5.out.below hb6
        have HJ : Hid (refF four internal (x.t :: met) (refStep four internal met a.c v x).1 (refStep four internal met a.c v x).2 (L.drop (k + 1)) = refF four internal (x.t :: met) a2.c (judgeF v ⟨ra, rc, rs⟩) (L.drop (k + 1))) := by
          show _ = _
          rw [HQ.out, HAC.out]
        generalize judgeF v ⟨ra, rc, rs⟩ = jv at HJ ⊢
        have HVV : Hid (CellsAt V6 (w.heap.size + 1 + 1 + 1) #[.int .i64 v.act, .int .u8 v.code, .int .u8 v.sub] 42) := HS6.out.vc
        clear hb6 HS5 HV5 v0 v1 v2 u0 u1 u2
        go_wp2_with (with_reducible show wpList _ _ _ (_ :: _) _ _; refine wpList_store_verdict rfl (.tmp 9) (.tmp 57) rfl (w.heap.size + 1 + 1 + 1) rfl jv rfl v HVV.out ?_)
        have HS7 : Hid (RQ w w.heap.size (V6.setRow (w.heap.size + 1 + 1 + 1) jv.ar) (x.t :: met) a2 jv) := HS6.out.setV jv
        exact ⟨⟨k + 1, x.t :: met, a2, jv, by omega, by go_num, HS7.out, HRF2.out.trans HJ.out⟩, by simp [intOf]; omega⟩
    · obtain rfl : k = L.length := by omega
      have HF : Hid (res = (a.c, v)) := by
        show _ = _
        rw [HRF.out, List.drop_length]
        rfl
      have HRE : Hid (RE w w.heap.size wr a v) := HRS.out.done
      clear HRF HRS
      obtain ⟨v0, v1, v2⟩ := CellsAt.c3 HRE.out.vc
      by_cases h2 : 2 ≤ v.act
      · have z2 : decide (v.act ≥ 2) = true := decide_eq_true h2
        have HQ : Hid ((if 2 ≤ v.act then noC else a.c) = noC) := if_pos h2
        clear h2
        go_upto_region 16 with fail
        refine wp_region_held_drew (S := fun w' => RE w w.heap.size w' a v) (by kernel_rfl) (HRE.out.drew 1) (fun hHeld => ?_)
        refine wpAnyH_take (i := 0) (oi := { dst := some 61, op := Op.build 40 #[], type := 40, pos := "ref.go:413", after := #[], guard := none }) (v := .agg noAtr.ar) rfl (by kernel_rfl) (by kernel_rfl) (by kernel_rfl) (fun _ _ _ h => h) (Or.inl ⟨by rfl, ?_⟩) hHeld ?_
        · intro w hSw
          clear hSw
          go_simp
          rfl
        try simp only [Act.put, List.setIfInBounds_toArray, List.set_cons_zero, List.set_cons_succ]
        refine wpAnyH_take (i := 1) (oi := { dst := some 62, op := Op.load 42 (Operand.tmp 9), type := 42, pos := "ref.go:413", after := #[{ on := 2, ground := Ground.gcOnly Departure.lateStores }], guard := none }) (v := .agg v.ar) rfl (by kernel_rfl) (by kernel_rfl) (by kernel_rfl) (fun _ _ _ h => h) (yields_verdict (by rfl) _ rfl (w.heap.size + 1 + 1 + 1) (by rfl) v (fun w h => h.vc)) hHeld ?_
        try simp only [Act.put, List.setIfInBounds_toArray, List.set_cons_zero, List.set_cons_succ]
        refine wpAnyH_ready (rs := [2]) (by kernel_rfl) (by simp) ?_
        refine AllReadyH.cons (o := { dst := none, op := Op.store 40 (Operand.tmp 6) (Operand.tmp 61), type := 0, pos := "ref.go:413", after := #[{ on := 0, ground := Ground.data }, { on := 0, ground := Ground.phase }, { on := 1, ground := Ground.textOnly Departure.lateStores }], guard := none }) rfl (fun K hK => ?_) AllReadyH.nil
        refine wp_store_attrs _ _ rfl w.heap.size (by rfl) noAtr (by rfl) _ hHeld.r1.choose_spec ?_
        refine hK.out _ _ (hHeld.store1 noAtr) (fun hHeld => ?_)
        clear hK K
        try simp only [Act.put, List.setIfInBounds_toArray, List.set_cons_zero, List.set_cons_succ]
        refine wpAnyH_ready (rs := [3]) (by kernel_rfl) (by simp) ?_
        refine AllReadyH.cons (o := { dst := none, op := Op.store 42 (Operand.tmp 7) (Operand.tmp 62), type := 0, pos := "ref.go:413", after := #[{ on := 1, ground := Ground.data }, { on := 2, ground := Ground.chain }, { on := 0, ground := Ground.phase }, { on := 1, ground := Ground.phase }, { on := 2, ground := Ground.phase }], guard := none }) rfl (fun K hK => ?_) AllReadyH.nil
        refine wp_store_verdict _ _ rfl (w.heap.size + 1) (by rfl) v (by rfl) _ hHeld.r2.choose_spec ?_
        refine hK.out _ _ (hHeld.store2 v) (fun hHeld => ?_)
        clear hK K
        try simp only [Act.put, List.setIfInBounds_toArray, List.set_cons_zero, List.set_cons_succ]
        refine wpAnyH_done (by kernel_rfl) ?_ _
        obtain ⟨q, hq⟩ := HRE.out.r1
        obtain ⟨q2, hq2⟩ := HRE.out.r2
        have E1 := Lib.hid ((CellsAt.setRow (hq.drew 1) noAtr.ar).row (grown_setRow _ (w.heap.size + 1) v.ar) (by omega))
        have E2 := Lib.hid (CellsAt.setRow (CellsAt.row (CellsAt.drew hq2 1) (grown_setRow _ w.heap.size noAtr.ar) (by omega)) v.ar)
        have HE := Lib.hid hHeld
        clear hHeld hq hq2
        go_wp2_with fail
        try simp only [Exit.inBlock, Exit.then]
        refine bodyPost_ret (v := .tuple #[Atr.v noAtr, .agg v.ar]) (results_read rfl rfl rfl E1.out E2.out) rfl ?_
        exact ⟨⟨noAtr, by rw [HF.out], noAtr_own _ _, by rw [HF.out]; show _ = if 2 ≤ v.act then noC else a.c; rw [HQ.out]; rfl⟩, HE.out.b⟩
      · have z2 : decide (v.act ≥ 2) = false := decide_eq_false h2
        have HQ : Hid ((if 2 ≤ v.act then noC else a.c) = a.c) := if_neg h2
        clear h2
        go_upto_region 17 with fail
        refine wp_region_held_drew (S := fun w' => RE w w.heap.size w' a v) (by kernel_rfl) (HRE.out.drew 1) (fun hHeld => ?_)
        refine wpAnyH_take (i := 0) (oi := { dst := some 63, op := Op.load 40 (Operand.tmp 8), type := 40, pos := "ref.go:415", after := #[], guard := none }) (v := .agg a.ar) rfl (by kernel_rfl) (by kernel_rfl) (by kernel_rfl) (fun _ _ _ h => h) (yields_attrs (by rfl) _ rfl (w.heap.size + 1 + 1) (by rfl) a (fun w h => h.ac)) hHeld ?_
        try simp only [Act.put, List.setIfInBounds_toArray, List.set_cons_zero, List.set_cons_succ]
        refine wpAnyH_take (i := 1) (oi := { dst := some 64, op := Op.load 42 (Operand.tmp 9), type := 42, pos := "ref.go:415", after := #[{ on := 2, ground := Ground.gcOnly Departure.lateStores }], guard := none }) (v := .agg v.ar) rfl (by kernel_rfl) (by kernel_rfl) (by kernel_rfl) (fun _ _ _ h => h) (yields_verdict (by rfl) _ rfl (w.heap.size + 1 + 1 + 1) (by rfl) v (fun w h => h.vc)) hHeld ?_
        try simp only [Act.put, List.setIfInBounds_toArray, List.set_cons_zero, List.set_cons_succ]
        refine wpAnyH_ready (rs := [2]) (by kernel_rfl) (by simp) ?_
        refine AllReadyH.cons (o := { dst := none, op := Op.store 40 (Operand.tmp 6) (Operand.tmp 63), type := 0, pos := "ref.go:415", after := #[{ on := 0, ground := Ground.data }, { on := 0, ground := Ground.phase }, { on := 1, ground := Ground.textOnly Departure.lateStores }], guard := none }) rfl (fun K hK => ?_) AllReadyH.nil
        refine wp_store_attrs _ _ rfl w.heap.size (by rfl) a (by rfl) _ hHeld.r1.choose_spec ?_
        refine hK.out _ _ (hHeld.store1 a) (fun hHeld => ?_)
        clear hK K
        try simp only [Act.put, List.setIfInBounds_toArray, List.set_cons_zero, List.set_cons_succ]
        refine wpAnyH_ready (rs := [3]) (by kernel_rfl) (by simp) ?_
        refine AllReadyH.cons (o := { dst := none, op := Op.store 42 (Operand.tmp 7) (Operand.tmp 64), type := 0, pos := "ref.go:415", after := #[{ on := 1, ground := Ground.data }, { on := 2, ground := Ground.chain }, { on := 0, ground := Ground.phase }, { on := 1, ground := Ground.phase }, { on := 2, ground := Ground.phase }], guard := none }) rfl (fun K hK => ?_) AllReadyH.nil
        refine wp_store_verdict _ _ rfl (w.heap.size + 1) (by rfl) v (by rfl) _ hHeld.r2.choose_spec ?_
        refine hK.out _ _ (hHeld.store2 v) (fun hHeld => ?_)
        clear hK K
        try simp only [Act.put, List.setIfInBounds_toArray, List.set_cons_zero, List.set_cons_succ]
        refine wpAnyH_done (by kernel_rfl) ?_ _
        obtain ⟨q, hq⟩ := HRE.out.r1
        obtain ⟨q2, hq2⟩ := HRE.out.r2
        have E1 := Lib.hid ((CellsAt.setRow (hq.drew 1) a.ar).row (grown_setRow _ (w.heap.size + 1) v.ar) (by omega))
        have E2 := Lib.hid (CellsAt.setRow (CellsAt.row (CellsAt.drew hq2 1) (grown_setRow _ w.heap.size a.ar) (by omega)) v.ar)
        have HE := Lib.hid hHeld
        clear hHeld hq hq2
        go_wp2_with fail
        try simp only [Exit.inBlock, Exit.then]
        refine bodyPost_ret (v := .tuple #[Atr.v a, .agg v.ar]) (results_read rfl rfl rfl E1.out E2.out) rfl ?_
        exact ⟨⟨a, by rw [HF.out], AtO.lower HE.out.o (by omega), by rw [HF.out]; show _ = if 2 ≤ v.act then noC else a.c; rw [HQ.out]⟩, HE.out.b⟩
end Go.Proofs.YtkcojblflebomaaGreat
