/-
  Several texts in one.
-/
import Derived.Test.YtldpcliahfiloaaGreatPW51
set_option linter.unusedVariables false
set_option linter.unusedSimpArgs false
namespace Go.Proofs.YtldpcliahfiloaaGreat
open Go.RowKit Go.MapKept Go.Shelf
open Go.ChangeShapes Go.WideShapes Go.ChangeAt
open Go.ChangeMaps (open_string shut_string)
open Go.Lib hiding intOf
open Go.Sort hiding Below

theorem own_one (w : World) (base : Nat) (t : Td) (hb : base ≤ w.heap.size) : OwnM (w.alloc (.cells t.pa 64)) base 64 29 (.slice (some ⟨w.heap.size, 0, none⟩) 1 1) 1 (flatPh [t]) := by
  have e : flatPh [t] = t.pa.toList := by unfold flatPh; rw [List.flatMap_cons, List.flatMap_nil, List.append_nil]
  rw [e]
  exact ⟨rfl, .inr ⟨w.heap.size, 1, t.pa, (0, 0), rfl, hb, heap_alloc_new w _, by simp, Nat.le_refl _, by decide, rfl, rfl⟩⟩
theorem CellsAt.pa_range {w : World} {g : Nat} {t : Td} (h : CellsAt w g (pathAr t.k t.label t.a t.stale) 64) : w.rangeAt g 0 t.pa.toList := h.range
/-- what is at a place, or nothing -/
def ctOf (M : List TdC) (k : Pk) : TdC := match getC M k with | some t => t | none => ⟨noPk, 0, noAtr.c, false⟩
set_option maxRecDepth 100000 in
set_option maxHeartbeats 16000000 in
theorem step2_any {w : World} {b m : Nat} {most : Int} {M : List TdC} {A : Option Addr} {c : Nat} {L : List Td} (h : StP w b m most M A c L) (hlen : M.length ≤ 800) (z : Int) (hz : (wrap64 (z.tmod 7 + 7)).tmod 7 = 2) (k : Pk) (hk : k.Ok) (label : Nat) (hl : label < 4294967296) (a : Atr) (ha : AtrOk w a) (hsz : AtrSz a.c) (fam : Int) :
    Calls Tryz.prog 5 #[.pointer (some ⟨b, 0, none⟩), .agg (ribAr most A L.length c), .agg (doAr z k label a fam)] w fun e w' => StepPost w m most M A c L w' e := by
  obtain ⟨⟨base, hrib⟩, hph, hrel⟩ := h
  have HRIB := Lib.hid hrib
  have HPH := Lib.hid hph
  have HREL := Lib.hid hrel
  have HK := Lib.hid hk
  have HLB := Lib.hid hl
  have HAO := Lib.hid ha
  have HSZ := Lib.hid hsz
  have HZ := Lib.hid hz
  have HLEN : Hid (M.length ≤ 800) := hlen
  have hLl : L.length ≤ 800 := by have := hrel.len; rw [List.length_map] at this; omega
  clear hrib hph hrel hk hl ha hsz hz hlen
  go_enter Tryz.func5, Tryz.ntmps5
  go_upto_region 1 with fail
  refine rb_name fun V hV => ?_
  obtain ⟨s, hs⟩ : ∃ s, s = w.heap.size := ⟨_, rfl⟩
  have HR0 : Hid (CellsAt V s (ribAr most A L.length c) 27) := by rw [hV, hs]; exact ((CellsAt.new _ _ _).alloc _).alloc _
  have HD0 : Hid (CellsAt V (s + 1) (doAr z k label a fam) 43) := by
    have h := CellsAt.new (w.alloc (.cells (ribAr most A L.length c) 27)) (doAr z k label a fam) 43
    rw [World.size_alloc] at h
    rw [hV, hs]
    exact h.alloc _
  have HQ0 : Hid (CellsAt V (s + 2) (ribAr 0 none 0 0) 27) := by
    have h := CellsAt.new ((w.alloc (.cells (ribAr most A L.length c) 27)).alloc (.cells (doAr z k label a fam) 43)) (ribAr 0 none 0 0) 27
    rw [World.size_alloc, World.size_alloc] at h
    rw [hV, hs]
    exact h
  have HB : Hid (Below w.heap.size w V) := by rw [hV]; exact (((Below.refl _ _).alloc (Nat.le_refl _) _).alloc (by simp) _).alloc (by simp; omega) _
  have HS : Hid (s = w.heap.size) := hs
  have HRV : Hid (RibM V base b m most M) := HRIB.out.below HB.out
  have hms : m < s := by rw [hs]; exact HRIB.out.lt.2.1
  have hbs : b < s := by rw [hs]; exact HRIB.out.lt.1
  rw [← hs]
  clear hV hs
  obtain ⟨d0, ⟨d1, d2, d3, d4, d5, d6⟩, d23⟩ := do_cells HD0.out
  go_upto_region 2 with fail
  rw [HZ.out]
  clear HZ d0
  have HGP : Hid (Calls Tryz.prog 18 #[.pointer (some ⟨b, 0, none⟩), .agg #[.int .i64 k.fam, .int .u64 k.rd, .string k.addr, .int .i64 k.len], .int .u32 (k.id : Nat)] V fun e w' => (∃ tp : Td, e = .returned (.tuple #[.agg (pathAr tp.k tp.label tp.a tp.stale), .bool (getC M k).isSome]) ∧ AtO w' V.heap.size tp.a ∧ tp.c = ctOf M k) ∧ Below V.heap.size V w') := by
    refine (rgetM_any HRV.out k HK.out).mono ?_
    rintro e w' ⟨h1, h2⟩
    refine ⟨?_, h2⟩
    unfold GetPost at h1
    unfold ctOf
    cases hg : getC M k with
    | none =>
      rw [hg] at h1
      exact ⟨⟨noPk, 0, noAtr, false⟩, h1, noAtr_own _ _, rfl⟩
    | some t =>
      rw [hg] at h1
      obtain ⟨a2, e1, e2, e3⟩ := h1
      have hkt := (getC_some hg).2
      refine ⟨⟨k, t.label, a2, t.stale⟩, e1, e2, ?_⟩
      obtain ⟨tk, tl, tc, ts⟩ := t
      dsimp only at hkt e3
      subst hkt
      unfold Td.c
      dsimp only
      rw [e3]
  have HGR : Hid (∀ W, Below w.heap.size w W → Calls Tryz.prog 19 #[.agg (ribAr most A L.length c), .agg #[.int .i64 k.fam, .int .u64 k.rd, .string k.addr, .int .i64 k.len], .int .u32 (k.id : Nat)] W fun e w' => (∃ u : Td, e = .returned (.tuple #[.agg (pathAr u.k u.label u.a u.stale), .bool (getC M k).isSome]) ∧ AtrOk w' u.a ∧ u.c = ctOf M k) ∧ Below W.heap.size W w') := fun W hW => by
    refine (get22_any (HPH.out.below hW) HREL.out.2 (by omega) most k HK.out).mono ?_
    rintro e w' ⟨h1, h2⟩
    refine ⟨?_, h2⟩
    obtain ⟨g1, g2⟩ := HREL.out.get k
    unfold ctOf
    cases hp : (placeF (L.map Td.c) k).2 with
    | true =>
      obtain ⟨t, ht, e1⟩ := h1.1 hp
      obtain ⟨t2, ht2, hk2, hg2⟩ := g1 hp
      rw [List.getElem?_map, ht] at ht2
      have ht3 : t.c = t2 := Option.some.inj ht2
      rw [hg2]
      exact ⟨t, e1, (((HPH.out.below hW).below h2).ok t (List.mem_of_getElem? ht)).2.2.1, ht3⟩
    | false =>
      rw [g2 hp]
      exact ⟨⟨noPk, 0, noAtr, false⟩, h1.2 hp, (noAtr_own w' 0).ok, rfl⟩
  generalize (getC M k).isSome = bq at HGP HGR
  generalize ctOf M k = ct at HGP HGR
  go_wp2_with fail
  refine HGP.out.mono ?_
  rintro e w2 ⟨⟨tp, rfl, hao, hct⟩, hb2⟩
  have HAO2 : Hid (AtO w2 V.heap.size tp.a) := hao
  have HCT := Lib.hid hct
  have HB2 : Hid (Below V.heap.size V w2) := hb2
  have HN : Hid (∀ cs : Array Value, CellsAt (w2.alloc (.cells cs 64)) w2.heap.size cs 64) := fun cs => CellsAt.new _ _ _
  clear hao hct hb2 HGP d1 d2 d3 d4 d5 d6 d23
  go_upto_region 14 with (with_reducible show wpList _ _ _ (_ :: _) _ _; refine wpList_store_path rfl (.tmp 18) (.tmp 112) rfl w2.heap.size rfl tp.k tp.label tp.a tp.stale rfl _ (HN.out _) rfl ?_)
  refine rb_name fun Z1 hZ => ?_
  have HBZ1 : Hid (Below w2.heap.size w2 Z1) := by rw [hZ]; exact ((Below.refl _ _).alloc (Nat.le_refl _) _).grown (grown_setRow' _ _ _) (by simp) (fun q hq => by cases hq; exact Nat.le_refl _)
  obtain ⟨g1, hg1⟩ : ∃ x, x = w2.heap.size := ⟨_, rfl⟩
  have HG1 : Hid (CellsAt Z1 g1 (pathAr tp.k tp.label tp.a tp.stale) 64) := by rw [hZ, hg1]; exact (HN.out _).setRow' _
  have HV1 : Hid (Below V.heap.size V Z1) := HB2.out.trans (HBZ1.out.mono HB2.out.size)
  have HA1 : Hid (AtO Z1 V.heap.size tp.a) := AtO.below HAO2.out HBZ1.out
  try rw [← hg1]
  try simp only [Act.put]
  have HRB1 : Hid (CellsAt Z1 s (ribAr most A L.length c) 27) := HR0.out.below HV1.out HR0.out.lt
  obtain ⟨_, ⟨d1, d2, d3, d4, d5, d6⟩, d23⟩ := do_cells (HD0.out.below HV1.out HD0.out.lt)
  clear hZ hg1 HN HBZ1 HB2 HAO2
  go_wp2_with (with_reducible show wpList _ _ _ (_ :: _) _ _; refine wpList_load_rib rfl (.tmp 4) rfl s rfl most A L.length c HRB1.out ?_)
  refine (HGR.out Z1 (HB.out.trans (HV1.out.mono HB.out.size))).mono ?_
  rintro e w3 ⟨⟨u, rfl, hau, hcu⟩, hb3⟩
  have HU3 := Lib.hid hau
  have HCU := Lib.hid hcu
  have HB3 : Hid (Below Z1.heap.size Z1 w3) := hb3
  have HN : Hid (∀ cs : Array Value, CellsAt (w3.alloc (.cells cs 64)) w3.heap.size cs 64) := fun cs => CellsAt.new _ _ _
  clear hau hcu hb3 HGR d1 d2 d3 d4 d5 d6 d23
  go_upto_region 15 with (with_reducible show wpList _ _ _ (_ :: _) _ _; refine wpList_store_path rfl (.tmp 20) (.tmp 123) rfl w3.heap.size rfl u.k u.label u.a u.stale rfl _ (HN.out _) rfl ?_)
  refine rb_name fun Z2 hZ => ?_
  have HBZ2 : Hid (Below w3.heap.size w3 Z2) := by rw [hZ]; exact ((Below.refl _ _).alloc (Nat.le_refl _) _).grown (grown_setRow' _ _ _) (by simp) (fun q hq => by cases hq; exact Nat.le_refl _)
  obtain ⟨g2, hg2⟩ : ∃ x, x = w3.heap.size := ⟨_, rfl⟩
  have HG2 : Hid (Z2.rangeAt g2 0 u.pa.toList) := by
    have h : CellsAt Z2 g2 (pathAr u.k u.label u.a u.stale) 64 := by rw [hZ, hg2]; exact (HN.out _).setRow' _
    exact h.pa_range
  have HB12 : Hid (Below Z1.heap.size Z1 Z2) := HB3.out.trans (HBZ2.out.mono HB3.out.size)
  have HG12 : Hid (Z2.rangeAt g1 0 tp.pa.toList) := (HG1.out.below HB12.out HG1.out.lt).pa_range
  have HC12 : Hid (CellsAt Z2 g1 (pathAr tp.k tp.label tp.a tp.stale) 64) := HG1.out.below HB12.out HG1.out.lt
  have HA2 : Hid (AtO Z2 V.heap.size tp.a) := AtO.below HA1.out HB12.out
  have HU2 : Hid (AtrOk Z2 u.a) := HU3.out.below HBZ2.out (Nat.le_refl _)
  have HV2 : Hid (Below V.heap.size V Z2) := HV1.out.trans (HB12.out.mono HV1.out.size)
  try rw [← hg2]
  try simp only [Act.put]
  clear hZ hg2 HN HBZ2 HB3 HB12 HU3 HG1 HA1 HV1 HRB1
  have HSP : Hid (Calls Tryz.prog 20 #[.agg tp.pa, .agg u.pa] Z2 fun e w' => e = .returned (.bool true) ∧ Below Z2.heap.size Z2 w') := samepath_td (HCT.out.trans HCU.out.symm) Z2 HA2.out.ok HU2.out
  go_wp2_with (with_reducible show wpList _ _ _ (_ :: _) _ _; first | refine wpList_load_ph rfl (.tmp 18) rfl g1 0 rfl tp HG12.out ?_ | refine wpList_load_ph rfl (.tmp 20) rfl g2 0 rfl u HG2.out ?_)
  refine HSP.out.mono ?_
  rintro e w4 ⟨rfl, hb4⟩
  have HB4 : Hid (Below Z2.heap.size Z2 w4) := hb4
  have HG14 : Hid (w4.rangeAt g1 0 tp.pa.toList) := (HC12.out.below hb4 HC12.out.lt).pa_range
  have HA4 : Hid (AtO w4 V.heap.size tp.a) := AtO.below HA2.out hb4
  have HV4 : Hid (Below V.heap.size V w4) := HV2.out.trans (hb4.mono HV2.out.size)
  clear hb4 HSP HG12 HG2 HC12 HA2 HU2 HV2 HB4
  go_wp2_with (with_reducible show wpList _ _ _ (_ :: _) _ _; first | refine wpList_load_ph rfl (.tmp 18) rfl g1 0 rfl tp HG14.out ?_ | refine wpList_build_ph rfl (.tmp 133) rfl tp rfl ?_)
  intro gs w5 hgs0 hw50
  have hgs := hgs0.out
  have hw5 := hw50.out
  have HB5 : Hid (Below w4.heap.size w4 w5) := by rw [hw5]; exact (Below.refl _ _).alloc (Nat.le_refl _) _
  have HV5 : Hid (Below V.heap.size V w5) := HV4.out.trans (HB5.out.mono HV4.out.size)
  have HSPO : Hid (Calls Tryz.prog 10 #[.slice (some ⟨gs, 0, none⟩) 1 1] w5 fun e w' => e = .returned (.tuple #[]) ∧ Below V.heap.size w5 w') := by
    refine spoil22_any (L := [tp]) ⟨by rw [hw5, hgs]; exact own_one w4 V.heap.size tp HV4.out.size, fun t ht => ?_⟩ HV5.out.size (by simp)
    rw [List.mem_singleton] at ht
    subst ht
    exact AtO.below HA4.out HB5.out
  clear hgs hw5 hgs0 hw50 HG14 HA4 HV4 HB5
  go_wp2_with fail
  refine HSPO.out.mono ?_
  rintro e Z ⟨rfl, hb6⟩
  have HVZ : Hid (Below V.heap.size V Z) := HV5.out.trans hb6
  clear hb6 HSPO HV5
  go_upto_region 17 with fail
  have HBX : Hid (∀ W, GrownX (fun i => i = m ∨ i = s + 2) Z W → CellsAt W s (ribAr most A L.length c) 27) := fun W hW => (HR0.out.below HVZ.out HR0.out.lt).grownX hW (by omega)
  have HQZ : Hid (CellsAt Z (s + 2) (ribAr 0 none 0 0) 27) := HQ0.out.below HVZ.out HQ0.out.lt
  have HRZ : Hid (RibM Z base b m most M) := HRV.out.below HVZ.out
  refine wp_region_held_drew (S := fun w' => GrownX (fun i => i = m ∨ i = s + 2) Z w') (by kernel_rfl) ((GrownX.refl _ _).drew 1) (fun hHeld => ?_)
  refine wpAnyH_take (i := 0) (oi := { dst := some 136, op := Op.move (Operand.tmp 0), type := 23, pos := "law.go:58", after := #[], guard := none }) (v := ?_) rfl (by kernel_rfl) (by kernel_rfl) (by kernel_rfl) (fun _ _ _ h => h) (Or.inl ⟨by rfl, ?_⟩) hHeld ?_
  rotate_left
  · intro w hSw
    clear hSw
    go_simp
    try with_reducible rfl
  try simp only [Act.put, List.setIfInBounds_toArray, List.set_cons_zero, List.set_cons_succ]
  refine wpAnyH_take (i := 1) (oi := { dst := some 137, op := Op.load 27 (Operand.tmp 4), type := 27, pos := "law.go:58", after := #[{ on := 3, ground := Ground.gcOnly Departure.lateStores }], guard := none }) (v := Value.agg (ribAr most A L.length c)) rfl (by kernel_rfl) (by kernel_rfl) (by kernel_rfl) (fun _ _ _ h => h) (yields_rib (by rfl) (.tmp 4) rfl s (by rfl) most A L.length c (fun w hSw => HBX.out w hSw)) hHeld ?_
  try simp only [Act.put, List.setIfInBounds_toArray, List.set_cons_zero, List.set_cons_succ]
  refine wpAnyH_take (i := 2) (oi := { dst := some 138, op := Op.move (Operand.tmp 22), type := 4, pos := "law.go:58", after := #[{ on := 4, ground := Ground.gcOnly Departure.lateStores }], guard := none }) (v := ?_) rfl (by kernel_rfl) (by kernel_rfl) (by kernel_rfl) (fun _ _ _ h => h) (Or.inl ⟨by rfl, ?_⟩) hHeld ?_
  rotate_left
  · intro w hSw
    clear hSw
    go_simp
    try with_reducible rfl
  try simp only [Act.put, List.setIfInBounds_toArray, List.set_cons_zero, List.set_cons_succ]
  refine wpAnyH_take (i := 3) (oi := { dst := some 6, op := Op.assign (Operand.tmp 136), type := 23, pos := "law.go:58", after := #[{ on := 0, ground := Ground.data }, { on := 0, ground := Ground.phase }, { on := 1, ground := Ground.textOnly Departure.lateStores }, { on := 2, ground := Ground.textOnly Departure.lateStores }], guard := none }) (v := ?_) rfl (by kernel_rfl) (by kernel_rfl) (by kernel_rfl) (fun _ _ _ h => h) (Or.inl ⟨by rfl, ?_⟩) hHeld ?_
  rotate_left
  · intro w hSw
    clear hSw
    go_simp
    try with_reducible rfl
  try simp only [Act.put, List.setIfInBounds_toArray, List.set_cons_zero, List.set_cons_succ]
  refine wpAnyH_ready (rs := [4]) (by kernel_rfl) (by simp) ?_
  refine AllReadyH.cons (o := { dst := none, op := Op.store 27 (Operand.tmp 7) (Operand.tmp 137), type := 0, pos := "law.go:58", after := #[{ on := 1, ground := Ground.data }, { on := 3, ground := Ground.chain }, { on := 0, ground := Ground.phase }, { on := 1, ground := Ground.phase }, { on := 2, ground := Ground.textOnly Departure.lateStores }, { on := 3, ground := Ground.phase }], guard := none }) rfl (fun K hK => ?_) AllReadyH.nil
  refine wp_store_row 27 (.tmp 7) (.tmp 137) rfl (s + 2) (ribAr most A L.length c) rfl rfl 27 _ (HQZ.out.drew 1) (by rw [rib_size]; rfl) rfl (rib_ones _ _ _ _) ?_
  refine hK.out _ _ (hHeld.trans (GrownX.of_row (X := fun i => i = m ∨ i = s + 2) (grown_setRow' _ _ _) (.inr rfl))) (fun hHeld => ?_)
  clear hK K
  try simp only [Act.put, List.setIfInBounds_toArray, List.set_cons_zero, List.set_cons_succ]
  refine wpAnyH_take (i := 5) (oi := { dst := some 8, op := Op.assign (Operand.tmp 138), type := 4, pos := "law.go:58", after := #[{ on := 2, ground := Ground.data }, { on := 4, ground := Ground.chain }, { on := 0, ground := Ground.phase }, { on := 1, ground := Ground.phase }, { on := 2, ground := Ground.phase }, { on := 3, ground := Ground.phase }, { on := 4, ground := Ground.phase }], guard := none }) (v := ?_) rfl (by kernel_rfl) (by kernel_rfl) (by kernel_rfl) (fun _ _ _ h => h) (Or.inl ⟨by rfl, ?_⟩) hHeld ?_
  rotate_left
  · intro w hSw
    clear hSw
    go_simp
    try with_reducible rfl
  try simp only [Act.put, List.setIfInBounds_toArray, List.set_cons_zero, List.set_cons_succ]
  refine wpAnyH_done (by kernel_rfl) ?_ _
  have HF : Hid (CellsAt (Z.drew.setRow (s + 2) (ribAr most A L.length c)) (s + 2) (ribAr most A L.length c) 27) := (show CellsAt Z.drew (s + 2) _ 27 from HQZ.out.drew 1).setRow' _
  have hgr := grown_setRow' Z.drew (s + 2) (ribAr most A L.length c)
  have HRF : Hid (RibM (Z.drew.setRow (s + 2) (ribAr most A L.length c)) base b m most M) := HRZ.out.drew_.offT hgr (HQZ.out.drew 1) (by omega) (by omega)
  have HBF : Hid (Below w.heap.size w (Z.drew.setRow (s + 2) (ribAr most A L.length c))) := ((HB.out.trans (HVZ.out.mono HB.out.size)).trans ((below_drewN (Below.refl _ _) 1).mono (HB.out.trans (HVZ.out.mono HB.out.size)).size)).grown hgr ((HB.out.trans (HVZ.out.mono HB.out.size)).size) (fun q hq => by cases hq; have := HS.out; omega)
  clear hHeld
  go_wp2_with fail
  exact bodyPost_ret (results_step rfl _ _ (s + 2) most A L.length c (.pointer (some ⟨b, 0, none⟩)) (.bool true) rfl rfl rfl HF.out) rfl ⟨b, m, M, A, c, L, rfl, ⟨⟨base, HRF.out⟩, HPH.out.below HBF.out, HREL.out⟩, Nat.le_succ _, .inl rfl, GrownX.of_below HBF.out, .inl ⟨rfl, rfl, rfl⟩⟩
end Go.Proofs.YtldpcliahfiloaaGreat
