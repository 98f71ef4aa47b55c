/-
  AttrReads: for all lists of raw attributes (up to the small bulk) the law answers true. Conditions: none of its own.
-/
import Derived.Test.YtkcojblflebomaaGreatNR50
import Derived.Test.YtkcojblflebomaaGreatNR51
import Derived.Test.YtkcojblflebomaaGreatNR52
import Derived.Test.YtkcojblflebomaaGreatNR28
import Derived.Test.YtkcojblflebomaaGreatNR15
import Derived.Test.YtkcojblflebomaaGreatNR53
set_option linter.unusedVariables false
set_option linter.unusedSimpArgs false
namespace Go.Proofs.YtkcojblflebomaaGreat
open Go.RowKit Go.MapKept Go.Shelf
open Go.ChangeShapes Go.WideShapes Go.ChangeAt
open Go.ChangeMaps (open_string shut_string)
open Go.Lib hiding intOf

theorem RwsOk.take {w : World} {A : Option Addr} {c N : Nat} {L : List Rw} (h : RwsOk w A c L) (hN : N ≤ L.length) : RwsOk w A c (L.take N) := by
  refine ⟨fun hl => ?_, by rw [List.length_take]; have := h.len; omega, h.cap, fun r hr => h.fits r (List.mem_of_mem_take hr)⟩
  rw [List.length_map, List.length_take] at hl
  obtain ⟨b, off, hA, hb, hc⟩ := h.rd (by rw [List.length_map]; omega)
  refine ⟨b, off, hA, hb, fun i cs hi j u hu => hc i cs ?_ j u hu⟩
  rw [List.getElem?_map] at hi ⊢
  by_cases hin : i < N
  · rwa [List.getElem?_take_of_lt hin] at hi
  · rw [List.getElem?_take_eq_none (by omega)] at hi
    cases hi
set_option maxRecDepth 100000 in
set_option maxHeartbeats 16000000 in
theorem reads_walk (A : Option Addr) (L : List Rw) (cap : Nat) (four internal : Bool) (w : World) (h : RwsOk w A cap L) (hsz : ∀ r ∈ L, r.v.size ≤ 1048576) :
    Calls Tryz.prog 5 #[.slice A L.length cap, .bool four, .bool internal] w fun e w' => e = .returned (.bool true) ∧ Below w.heap.size w w' := by
  have hm1 := h.len
  have hm2 := h.cap
  obtain ⟨N, hN, hN1, hN2⟩ : ∃ N : Nat, min (L.length : Int) 100 = (N : Int) ∧ N ≤ L.length ∧ N ≤ 100 := ⟨min L.length 100, by omega, by omega, by omega⟩
  have HR := Lib.hid (h.take hN1)
  have HSZ : Hid (∀ r ∈ L.take N, r.v.size ≤ 1048576) := fun r hr => hsz r (List.mem_of_mem_take hr)
  have hln : (L.take N).length = N := by rw [List.length_take]; omega
  have hcapN : N ≤ cap := by omega
  clear h hsz
  obtain ⟨e1, e2⟩ := read_ref four internal (L.take N)
  have HPR : Hid (∀ A' c' W, RwsOk W A' c' (L.take N) → Calls Tryz.prog 19 #[.slice A' N c', .bool four, .bool internal] W fun e w' => (∃ a : Atr, e = .returned (.tuple #[.agg a.ar, .agg #[.int .i64 (refF four internal [] noC ⟨0, 0, 0⟩ (L.take N)).2.act, .int .u8 (refF four internal [] noC ⟨0, 0, 0⟩ (L.take N)).2.code, .int .u8 (refF four internal [] noC ⟨0, 0, 0⟩ (L.take N)).2.sub]]) ∧ AtO w' W.heap.size a ∧ a.c = (if 2 ≤ (refF four internal [] noC ⟨0, 0, 0⟩ (L.take N)).2.act then noC else (refF four internal [] noC ⟨0, 0, 0⟩ (L.take N)).1)) ∧ Below W.heap.size W w') := fun A' c' W h => by
    have h2 := read_tab A' c' (L.take N) four internal W h (fun r hr => by have := HSZ.out r hr; omega)
    rw [hln, e2, e1] at h2
    exact h2
  have HRR : Hid (∀ A' c' W, RwsOk W A' c' (L.take N) → Calls Tryz.prog 20 #[.slice A' N c', .bool four, .bool internal] W fun e w' => (∃ a : Atr, e = .returned (.tuple #[.agg a.ar, .agg #[.int .i64 (refF four internal [] noC ⟨0, 0, 0⟩ (L.take N)).2.act, .int .u8 (refF four internal [] noC ⟨0, 0, 0⟩ (L.take N)).2.code, .int .u8 (refF four internal [] noC ⟨0, 0, 0⟩ (L.take N)).2.sub]]) ∧ AtO w' W.heap.size a ∧ a.c = (if 2 ≤ (refF four internal [] noC ⟨0, 0, 0⟩ (L.take N)).2.act then noC else (refF four internal [] noC ⟨0, 0, 0⟩ (L.take N)).1)) ∧ Below W.heap.size W w') := fun A' c' W h => by
    have h2 := rread_any A' c' (L.take N) four internal W h HSZ.out
    rw [hln] at h2
    exact h2
  generalize (if 2 ≤ (refF four internal [] noC ⟨0, 0, 0⟩ (L.take N)).2.act then noC else (refF four internal [] noC ⟨0, 0, 0⟩ (L.take N)).1) = R at HPR HRR
  clear e1 e2
  generalize (refF four internal [] noC ⟨0, 0, 0⟩ (L.take N)).2 = v at HPR HRR
  obtain ⟨act, code, sub⟩ := v
  change Hid (∀ A' c' W, RwsOk W A' c' (L.take N) → Calls Tryz.prog 19 #[.slice A' N c', .bool four, .bool internal] W fun e w' => (∃ a : Atr, e = .returned (.tuple #[.agg a.ar, .agg #[.int .i64 act, .int .u8 code, .int .u8 sub]]) ∧ AtO w' W.heap.size a ∧ a.c = R) ∧ Below W.heap.size W w') at HPR
  change Hid (∀ A' c' W, RwsOk W A' c' (L.take N) → Calls Tryz.prog 20 #[.slice A' N c', .bool four, .bool internal] W fun e w' => (∃ a : Atr, e = .returned (.tuple #[.agg a.ar, .agg #[.int .i64 act, .int .u8 code, .int .u8 sub]]) ∧ AtO w' W.heap.size a ∧ a.c = R) ∧ Below W.heap.size W w') at HRR
  have HSR : Hid (∀ A' B' c' d' W, RwsOk W A' c' (L.take N) → RwsOk W B' d' (L.take N) → Calls Tryz.prog 15 #[.slice A' N c', .slice B' N d'] W fun e w' => e = .returned (.bool true) ∧ Below W.heap.size W w') := fun A' B' c' d' W h1 h2 => by
    have h3 := rsraws_any A' B' c' d' _ _ W h1 h2
    rwa [hln, decide_eq_true rfl] at h3
  have HSM : Hid (∀ (W : World) (x y : Atr), AtrOk W x → AtrOk W y → x.c = R → y.c = R → Calls Tryz.prog 21 #[.agg x.ar, .agg y.ar] W fun e w' => e = .returned (.bool true) ∧ Below W.heap.size W w') := fun W x y h1 h2 e1 e2 => by
    have h := rsame_any x y W h1 h2
    rwa [decide_eq_true (e1.trans e2.symm)] at h
  have HSP := Lib.hid spoil_in
  have HWK := Lib.hid works_any
  have HAP : Hid (∀ {ops : Array Oper} {rest : List Oper} {op : Oper} {a : Act} {Q : Exit → Act → World → Prop} {W : World} (hgd : op.guard = none) (s p : Operand) (ho : op.op = .call { callee := .builtin .append, args := #[s, p], argTypes := #[22, 22] }) (hs : a.eval s = .slice none 0 0)
    (A : Option Addr) (c : Nat) (hp : a.eval p = .slice A N c) (hr : Hid (RwsOk W A c (L.take N)))
    (h : ∀ A' c' w', Hid (RwsOk w' A' c' (L.take N)) → Hid (Below W.heap.size W w') → wpList Tryz.prog ops Q rest (a.put op.dst (.slice A' N c')) w'), wpList Tryz.prog ops Q (op :: rest) a W) := by
    show ∀ {ops : Array Oper} {rest : List Oper} {op : Oper} {a : Act} {Q : Exit → Act → World → Prop} {W : World}, _
    intro ops rest op a Q W hgd s p ho hs A c hp hr h
    refine wpList_own_raws hgd s p ho hs A c (L.take N) (by rw [hln]; exact hp) hr.out.rd (by rw [hln]; omega) (fun A' c' w' ho hb => ?_)
    rw [hln]
    refine h A' c' w' ?_ hb
    obtain ⟨A2, c2, hv, hok⟩ := OwnL.raws ho.out hr.out.fits
    injection hv with e1 e2 e3
    subst e1
    subst e3
    exact hok
  clear hln
  go_enter Tryz.func5, Tryz.ntmps5
  go_wp2_with (with_reducible show wpList _ _ _ (_ :: _) _ _; refine HAP.out rfl (.tmp 17) (.tmp 18) rfl rfl A cap rfl HR ?_)
  intro B d w1 HR1 HB1
  clear hN HAP
  go_wp2_with fail
  refine (HPR.out B d _ HR1.out).mono ?_
  rintro e w2 ⟨⟨a, rfl, ho, hac⟩, hb2⟩
  have HA : Hid (AtO w2 w1.heap.size a) := ho
  have HAC : Hid (a.c = R) := hac
  have HB2 : Hid (Below w1.heap.size w1 w2) := hb2
  have HB2S : Hid (w1.heap.size ≤ w2.heap.size) := hb2.size
  clear ho hac hb2
  go_upto_region 5 with (with_reducible show wpList _ _ _ (_ :: _) _ _; first | refine wpList_store_attrs rfl (.tmp 8) (.tmp 25) rfl w2.heap.size rfl a rfl noAtr (rd_z _ _) ?_ | refine wpList_store_verdict rfl (.tmp 9) (.tmp 26) rfl (w2.heap.size + 1) rfl ⟨act, code, sub⟩ rfl ⟨0, 0, 0⟩ (rd_y _ _ _) ?_)
  refine wp_name fun V hV => ?_
  have HBV : Hid (Below w2.heap.size w2 V) := by rw [hV]; exact rd_b _ _ _ ⟨act, code, sub⟩
  have HCV : Hid (CellsAt V w2.heap.size a.ar 40) := by rw [hV]; exact rd_a _ _ _ ⟨act, code, sub⟩
  have HVV : Hid (CellsAt V (w2.heap.size + 1) #[.int .i64 act, .int .u8 code, .int .u8 sub] 42) := by rw [hV]; exact rd_v _ _ _ ⟨act, code, sub⟩
  have HBI : Hid (Below w1.heap.size w1 V) := HB2.out.trans (HBV.out.mono HB2.out.size)
  have HBA : Hid (Below w.heap.size w V) := HB1.out.trans (HBI.out.mono HB1.out.size)
  obtain ⟨g, hg⟩ : ∃ g, g = w2.heap.size := ⟨_, rfl⟩
  rw [← hg] at HCV HVV ⊢
  have HGE : Hid (g = w2.heap.size) := hg
  have HGV : Hid (g + 1 < V.heap.size) := HVV.out.lt
  clear hV hg
  go_wp2_with fail
  refine (HRR.out A cap _ (HR.out.below HBA.out (Nat.le_refl _))).mono ?_
  rintro e w3 ⟨⟨b, rfl, hob, hbc⟩, hb3⟩
  have HOB : Hid (AtO w3 V.heap.size b) := hob
  have HBC : Hid (b.c = R) := hbc
  have HC3 : Hid (CellsAt w3 g a.ar 40) := HCV.out.below hb3 HCV.out.lt
  have HV3 : Hid (CellsAt w3 (g + 1) #[.int .i64 act, .int .u8 code, .int .u8 sub] 42) := HVV.out.below hb3 HVV.out.lt
  have HB23 : Hid (Below w2.heap.size w2 w3) := HBV.out.trans (hb3.mono HBV.out.size)
  have HBI3 : Hid (Below w1.heap.size w1 w3) := HBI.out.trans (hb3.mono HBI.out.size)
  have HBA3 : Hid (Below w.heap.size w w3) := HBA.out.trans (hb3.mono HBA.out.size)
  have HVW : Hid (V.heap.size ≤ w3.heap.size) := hb3.size
  clear hob hbc hb3 HCV HVV HBV HBI HBA
  go_upto_region 6 with (with_reducible show wpList _ _ _ (_ :: _) _ _; first | refine wpList_store_attrs rfl (.tmp 10) (.tmp 32) rfl w3.heap.size rfl b rfl noAtr (rd_z _ _) ?_ | refine wpList_store_verdict rfl (.tmp 11) (.tmp 33) rfl (w3.heap.size + 1) rfl ⟨act, code, sub⟩ rfl ⟨0, 0, 0⟩ (rd_y _ _ _) ?_)
  refine wp_name fun U hU => ?_
  have hbU : Below w3.heap.size w3 U := by rw [hU]; exact rd_b _ _ _ ⟨act, code, sub⟩
  have HDU : Hid (CellsAt U w3.heap.size b.ar 40) := by rw [hU]; exact rd_a _ _ _ ⟨act, code, sub⟩
  have HEU : Hid (CellsAt U (w3.heap.size + 1) #[.int .i64 act, .int .u8 code, .int .u8 sub] 42) := by rw [hU]; exact rd_v _ _ _ ⟨act, code, sub⟩
  have HCU : Hid (CellsAt U g a.ar 40) := HC3.out.below hbU HC3.out.lt
  have HVU : Hid (CellsAt U (g + 1) #[.int .i64 act, .int .u8 code, .int .u8 sub] 42) := HV3.out.below hbU HV3.out.lt
  have HB2U : Hid (Below w2.heap.size w2 U) := HB23.out.trans (hbU.mono HB23.out.size)
  have HBIU : Hid (Below w1.heap.size w1 U) := HBI3.out.trans (hbU.mono HBI3.out.size)
  have HBAU : Hid (Below w.heap.size w U) := HBA3.out.trans (hbU.mono HBA3.out.size)
  have HOBU : Hid (AtO U V.heap.size b) := AtO.below HOB.out hbU
  have HAU : Hid (AtO U w1.heap.size a) := AtO.below HA.out HB2U.out
  obtain ⟨q, hq⟩ : ∃ q, q = w3.heap.size := ⟨_, rfl⟩
  rw [← hq] at HDU HEU ⊢
  have HQV : Hid (V.heap.size ≤ q) := by rw [hq]; exact HVW.out
  clear hU hbU hq HC3 HV3 HB23 HBI3 HBA3 HOB HVW
  have z1 : (act == act) = true := beq_iff_eq.2 rfl
  have z2 : ((code : Int) == code) = true := beq_iff_eq.2 rfl
  have z3 : ((sub : Int) == sub) = true := beq_iff_eq.2 rfl
  go_wp2_with (with_reducible show wpList _ _ _ (_ :: _) _ _; first | refine wpList_load_attrs rfl (.tmp 8) rfl g rfl a HCU.out ?_ | refine wpList_load_attrs rfl (.tmp 10) rfl q rfl b HDU.out ?_)
  refine (HSM.out _ a b HAU.out.ok HOBU.out.ok HAC.out HBC.out).mono ?_
  rintro e w4 ⟨rfl, hb4⟩
  have HD4 : Hid (CellsAt w4 q b.ar 40) := HDU.out.below hb4 HDU.out.lt
  have HE4 : Hid (CellsAt w4 (q + 1) #[.int .i64 act, .int .u8 code, .int .u8 sub] 42) := HEU.out.below hb4 HEU.out.lt
  have HC4 : Hid (CellsAt w4 g a.ar 40) := HCU.out.below hb4 HCU.out.lt
  have HV4 : Hid (CellsAt w4 (g + 1) #[.int .i64 act, .int .u8 code, .int .u8 sub] 42) := HVU.out.below hb4 HVU.out.lt
  have HB24 : Hid (Below w2.heap.size w2 w4) := HB2U.out.trans (hb4.mono HB2U.out.size)
  have HBI4 : Hid (Below w1.heap.size w1 w4) := HBIU.out.trans (hb4.mono HBIU.out.size)
  have HBA4 : Hid (Below w.heap.size w w4) := HBAU.out.trans (hb4.mono HBAU.out.size)
  have HOB4 : Hid (AtO w4 V.heap.size b) := AtO.below HOBU.out hb4
  clear hb4 HDU HEU HCU HVU HB2U HBIU HBAU HOBU HAU
  obtain ⟨v0, v1, v2⟩ := CellsAt.c3 HV4.out
  obtain ⟨u0, u1, u2⟩ := CellsAt.c3 HE4.out
  go_wp2_with (with_reducible show wpList _ _ _ (_ :: _) _ _; refine wpList_load_attrs rfl (.tmp 8) rfl g rfl a HC4.out ?_)
  refine (HSP.out a w1.heap.size w2 w4 HA.out (fun i h1 h2 => HB24.out.block i h2) HB24.out.size).mono ?_
  rintro e w5 ⟨rfl, hx⟩
  have hge := HGE.out
  have hgv := HGV.out
  have hqv := HQV.out
  have h2V : w2.heap.size ≤ V.heap.size := by omega
  have hx1 : ∀ i, w2.heap.size ≤ i → ¬ (w1.heap.size ≤ i ∧ i < w2.heap.size) := fun i h1 h2 => by omega
  have HD5 : Hid (CellsAt w5 q b.ar 40) := HD4.out.grownX hx (hx1 _ (by omega))
  have HE5 : Hid (CellsAt w5 (q + 1) #[.int .i64 act, .int .u8 code, .int .u8 sub] 42) := HE4.out.grownX hx (hx1 _ (by omega))
  have HC5 : Hid (CellsAt w5 g a.ar 40) := HC4.out.grownX hx (hx1 _ (by omega))
  have HV5 : Hid (CellsAt w5 (g + 1) #[.int .i64 act, .int .u8 code, .int .u8 sub] 42) := HV4.out.grownX hx (hx1 _ (by omega))
  have HOB5 : Hid (AtO w5 V.heap.size b) := HOB4.out.keep (fun i h1 h2 => hx.block i h2 (hx1 _ (by omega)))
  have HBI5 : Hid (Below w1.heap.size w1 w5) := hx.below HBI4.out (fun i h => h.1) HBI4.out.size
  have HBA5 : Hid (Below w.heap.size w w5) := hx.below HBA4.out (fun i h => Nat.le_trans HB1.out.size h.1) HBA4.out.size
  clear hx hge hgv hqv h2V hx1 HD4 HE4 HC4 HV4 HOB4 HBI4 HBA4 HB24 v0 v1 v2 u0 u1 u2 HA HB2
  go_wp2_with fail
  refine (HPR.out B d _ (HR1.out.below HBI5.out (Nat.le_refl _))).mono ?_
  rintro e w6 ⟨⟨a2, rfl, ho2, hac2⟩, hb6⟩
  have HA6 : Hid (AtO w6 w5.heap.size a2) := ho2
  have HAC6 : Hid (a2.c = R) := hac2
  have HD6 : Hid (CellsAt w6 q b.ar 40) := HD5.out.below hb6 HD5.out.lt
  have HE6 : Hid (CellsAt w6 (q + 1) #[.int .i64 act, .int .u8 code, .int .u8 sub] 42) := HE5.out.below hb6 HE5.out.lt
  have HC6 : Hid (CellsAt w6 g a.ar 40) := HC5.out.below hb6 HC5.out.lt
  have HV6 : Hid (CellsAt w6 (g + 1) #[.int .i64 act, .int .u8 code, .int .u8 sub] 42) := HV5.out.below hb6 HV5.out.lt
  have HBI6 : Hid (Below w1.heap.size w1 w6) := HBI5.out.trans (hb6.mono HBI5.out.size)
  have HBA6 : Hid (Below w.heap.size w w6) := HBA5.out.trans (hb6.mono HBA5.out.size)
  have HOB6 : Hid (AtO w6 V.heap.size b) := AtO.below HOB5.out hb6
  have HQ5 : Hid (q + 1 < w5.heap.size) := HE5.out.lt
  clear ho2 hac2 hb6 HD5 HE5 HC5 HV5 HOB5 HBI5 HBA5
  have HVX : Hid (CellsAt (w6.setRow g a2.ar) (g + 1) #[.int .i64 act, .int .u8 code, .int .u8 sub] 42) := HV6.out.row (grown_setRow' _ _ _) (by omega)
  go_upto_region 10 with (with_reducible show wpList _ _ _ (_ :: _) _ _; first | refine wpList_store_attrs rfl (.tmp 8) (.tmp 50) rfl g rfl a2 rfl a HC6.out ?_ | refine wpList_store_verdict rfl (.tmp 9) (.tmp 51) rfl (g + 1) rfl ⟨act, code, sub⟩ rfl ⟨act, code, sub⟩ HVX.out ?_)
  refine wp_name fun Y hY => ?_
  have hge := HGE.out
  have hgv := HGV.out
  have hqv := HQV.out
  have hq5 := HQ5.out
  have hG1 : w6.grownBy (w6.setRow g a2.ar) (some g) := grown_setRow' _ _ _
  have hG2 : (w6.setRow g a2.ar).grownBy Y (some (g + 1)) := by rw [hY]; exact grown_setRow' _ (g + 1) (Vd.mk act code sub).ar
  have HCY : Hid (CellsAt Y g a2.ar 40) := (HC6.out.setRow' _).row hG2 (by omega)
  have HVY : Hid (CellsAt Y (g + 1) #[.int .i64 act, .int .u8 code, .int .u8 sub] 42) := by rw [hY]; exact HVX.out.setRow' _
  have HDY : Hid (CellsAt Y q b.ar 40) := (HD6.out.row hG1 (by omega)).row hG2 (by omega)
  have HEY : Hid (CellsAt Y (q + 1) #[.int .i64 act, .int .u8 code, .int .u8 sub] 42) := (HE6.out.row hG1 (by omega)).row hG2 (by omega)
  have HAY : Hid (AtO Y w5.heap.size a2) := (HA6.out.keep (fun i h1 h2 => hG1.block i h2 (fun e => by injection e with e; omega))).keep (fun i h1 h2 => hG2.block i h2 (fun e => by injection e with e; omega))
  have HOBY : Hid (AtO Y V.heap.size b) := (HOB6.out.keep (fun i h1 h2 => hG1.block i h2 (fun e => by injection e with e; omega))).keep (fun i h1 h2 => hG2.block i h2 (fun e => by injection e with e; omega))
  have hw12 : w1.heap.size ≤ g := by rw [hge]; exact HB2S.out
  have hw01 := HB1.out.size
  have HBIY : Hid (Below w1.heap.size w1 Y) := (HBI6.out.grown hG1 HBI6.out.size (fun k hk => by cases hk; exact hw12)).grown hG2 ((HBI6.out.grown hG1 HBI6.out.size (fun k hk => by cases hk; exact hw12)).size) (fun k hk => by cases hk; omega)
  have HBAY : Hid (Below w.heap.size w Y) := HB1.out.trans (HBIY.out.mono HB1.out.size)
  clear hY hge hgv hqv hq5 hG1 hG2 hw12 hw01 HVX HC6 HV6 HD6 HE6 HA6 HOB6 HBI6 HBA6
  go_wp2_with (with_reducible show wpList _ _ _ (_ :: _) _ _; first | refine wpList_load_attrs rfl (.tmp 8) rfl g rfl a2 HCY.out ?_ | refine wpList_load_attrs rfl (.tmp 10) rfl q rfl b HDY.out ?_)
  refine (HSM.out _ a2 b HAY.out.ok HOBY.out.ok HAC6.out HBC.out).mono ?_
  rintro e w7 ⟨rfl, hb7⟩
  have HE7 : Hid (CellsAt w7 (q + 1) #[.int .i64 act, .int .u8 code, .int .u8 sub] 42) := HEY.out.below hb7 HEY.out.lt
  have HV7 : Hid (CellsAt w7 (g + 1) #[.int .i64 act, .int .u8 code, .int .u8 sub] 42) := HVY.out.below hb7 HVY.out.lt
  have HBI7 : Hid (Below w1.heap.size w1 w7) := HBIY.out.trans (hb7.mono HBIY.out.size)
  have HBA7 : Hid (Below w.heap.size w w7) := HBAY.out.trans (hb7.mono HBAY.out.size)
  clear hb7 HCY HVY HDY HEY HAY HOBY HBIY HBAY
  obtain ⟨v0, v1, v2⟩ := CellsAt.c3 HV7.out
  obtain ⟨u0, u1, u2⟩ := CellsAt.c3 HE7.out
  go_wp2_with fail
  refine (HSR.out B A d cap _ (HR1.out.below HBI7.out (Nat.le_refl _)) (HR.out.below HBA7.out (Nat.le_refl _))).mono ?_
  rintro e w8 ⟨rfl, hb8⟩
  have HBA8 : Hid (Below w.heap.size w w8) := HBA7.out.trans (hb8.mono HBA7.out.size)
  clear hb8 v0 v1 v2 u0 u1 u2 HE7 HV7 HBI7 HBA7
  go_wp2_with fail
  refine (HWK.out _).mono ?_
  rintro e w9 ⟨rfl, hb9⟩
  have HBA9 : Hid (Below w.heap.size w w9) := HBA8.out.trans (hb9.mono HBA8.out.size)
  clear hb9 HBA8
  go_wp2_with fail
  go_ret
  exact ⟨rfl, HBA9.out⟩
theorem bulk_head {H : Type} {d : DataW H} {l : List (DataW H)} (hk : Rows.uptoSmall H (d :: l) = true) : Rows.uptoBulk d ≤ 1048576 := by
  have h : Rows.uptoBulkAll (d :: l) ≤ 1048576 := of_decide_eq_true hk
  unfold Rows.uptoBulkAll at h
  omega
set_option maxHeartbeats 4000000 in
set_option maxRecDepth 100000 in
theorem attrReads_liftedU (os : Os) (started : os.Started) (H : Type) (enc : TypeId × Value → H) (F : Stop.Interp) :
    ReturnsInHanded {} Tryz.checked os 5 .any ((Rows.OpenSpec.upto Rows.attrReadsSpec).pre6 enc Tryz.prog Tryz.f5 Rows.attrReadsUptoRow.domain false) (((Rows.OpenSpec.upto Rows.attrReadsSpec).at F).post enc Tryz.prog Tryz.f5 false true false false) := by
  refine returnsInHanded_of_cond (C := Tryz.checked) (s := Rows.OpenSpec.upto Rows.attrReadsSpec) (k := Rows.uptoSmall) rfl own started (by kernel_rfl) Tryz.func5
    (OpenSpec.witness (enc := enc) (C := Tryz.checked) (s := Rows.OpenSpec.upto Rows.attrReadsSpec) (k := Rows.uptoSmall) rfl false ⟨#[], #[.slice none 0 0, .bool false, .bool false], []⟩ 8 (by kernel_rfl) (by kernel_rfl) (by kernel_rfl)
      (x := ([.nil, .lit (.bool false), .lit (.bool false)], [], [])) (by kernel_rfl) rfl (by kernel_rfl)) ?_
  intro W base args ds gs before hval0 hW hcnd hk _
  have hval : ∀ (j : Nat) t v, Tryz.f5.params[j]? = some t → args[j]? = some v → Value.okWide Tryz.prog W .any base t v := hval0
  have hW' := hW
  obtain ⟨p, q, hA0, hV, rfl, hfz, hnd⟩ := hW
  have hA : DataW.TrodAll enc Tryz.prog W 0 (fun _ => true) true Tryz.f5.params.toList args.toList ds p := hA0
  rw [Tryz.params5] at hA hval
  obtain ⟨v0, vs0, d0, ds0, p0, q0, hargs, rfl, rfl, h0, r0⟩ := trodAll_cons hA
  obtain ⟨v1, vs1, d1, ds1, p1, q1, rfl, rfl, rfl, h1, r1⟩ := trodAll_cons r0
  obtain ⟨v2, vs2, d2, ds2, p2, q2, rfl, rfl, rfl, h2, r2⟩ := trodAll_cons r1
  obtain ⟨rfl, rfl, rfl⟩ := trodAll_nil r2
  obtain rfl : args = #[v0, v1, v2] := by cases args; simp_all
  obtain ⟨rfl, rfl⟩ := trodVars_none hV
  obtain ⟨A0, len0, cap0, rfl⟩ := okWide_slice Tryz.underlying22 (hval 0 22 v0 rfl rfl)
  obtain ⟨four, rfl, rfl, rfl⟩ := open_bool Tryz.underlying4 (hval 1 4 v1 rfl rfl) h1
  obtain ⟨internal, rfl, rfl, rfl⟩ := open_bool Tryz.underlying4 (hval 2 4 v2 rfl rfl) h2
  simp only [List.append_nil] at hk
  obtain ⟨fu0, hf0⟩ := h0
  obtain ⟨A, l, cap, hv0, hok, hs⟩ := open_raws_bulk (v := .slice A0 len0 cap0) (x := (d0, p0)) 1048576 (by decide) hf0 (bulk_head hk)
  injection hv0 with ea0 eb0 ec0
  subst ea0
  subst eb0
  subst ec0
  refine (reads_walk A0 l cap0 four internal W hok hs).mono fun e W' ⟨he, bel⟩ => ?_
  exact ⟨_, he, law_post laidOut (by kernel_rfl) rfl (by kernel_rfl) Tryz.underlying4 hW' rfl bel⟩

theorem attrReads_holdsU : Rows.AttrReadsUptoSaid :=
  OpenClaim.holds_of_cond 5 Tryz.f5 rfl rfl rfl rfl rfl rfl rfl ⟨rfl, rfl, rfl, rfl, rfl⟩ rfl rfl rfl rfl rfl (by kernel_rfl) Tryz.func5 (by kernel_rfl)
    (of_decide_eq_true (by kernel_rfl)) (by unfold Func.isWrapper; first | (rw [if_pos (by decide +kernel)]; kernel_rfl) | (rw [if_neg (by decide +kernel)]; exact ⟨rfl, rfl⟩))
    (fun os started H enc _ F => attrReads_liftedU os started H enc F)
end Go.Proofs.YtkcojblflebomaaGreat
