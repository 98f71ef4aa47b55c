/-
  Several texts in one.
-/
import Derived.Test.YtldpcliahfiloaaGreatPW53
set_option linter.unusedVariables false
set_option linter.unusedSimpArgs false
namespace Go.Proofs.YtldpcliahfiloaaGreat
open Go.RowKit Go.MapKept Go.Shelf
open Go.ChangeShapes Go.WideShapes Go.ChangeAt
open Go.ChangeMaps (open_string shut_string)
open Go.Lib hiding intOf
open Go.Sort hiding Below

theorem RibM.keepX {w w' : World} {base b m : Nat} {most : Int} {M : List TdC} {X : Nat → Prop} (h : RibM w base b m most M) (hg : GrownX X w w') (hb : ¬ X b) (hm : ¬ X m) (hX : ∀ i, X i → ∀ cs T fr, w.heap[i]? ≠ some (.cells cs T fr)) : RibM w' base b m most M := by
  obtain ⟨S, h1, h2⟩ := h
  exact ⟨S, h1.keepX hg hb hm hX, h2⟩
set_option maxRecDepth 100000 in
set_option maxHeartbeats 16000000 in
theorem step6_any {w : World} {b m : Nat} {most : Int} {M : List TdC} {A : Option Addr} {c : Nat} {L : List Td} (h : StP w b m most M A c L) (hlen : M.length ≤ 800) (z : Int) (hz : (wrap64 (z.tmod 7 + 7)).tmod 7 = 6) (k : Pk) (hk : k.Ok) (label : Nat) (hl : label < 4294967296) (a : Atr) (ha : AtrOk w a) (hsz : AtrSz a.c) (fam : Int) :
    Calls Tryz.prog 5 #[.pointer (some ⟨b, 0, none⟩), .agg (ribAr most A L.length c), .agg (doAr z k label a fam)] w fun e w' => StepPost w m most M A c L w' e := by
  obtain ⟨⟨base, hrib⟩, hph, hrel⟩ := h
  have HRIB := Lib.hid hrib
  have HPH := Lib.hid hph
  have HREL := Lib.hid hrel
  have HK := Lib.hid hk
  have HLB := Lib.hid hl
  have HAO := Lib.hid ha
  have HSZ := Lib.hid hsz
  have HZ := Lib.hid hz
  have HLEN : Hid (M.length ≤ 800) := hlen
  have hLl : L.length ≤ 800 := by have := hrel.len; rw [List.length_map] at this; omega
  clear hrib hph hrel hk hl ha hsz hz hlen
  go_enter Tryz.func5, Tryz.ntmps5
  go_upto_region 1 with fail
  refine rb_name fun V hV => ?_
  obtain ⟨s, hs⟩ : ∃ s, s = w.heap.size := ⟨_, rfl⟩
  have HR0 : Hid (CellsAt V s (ribAr most A L.length c) 27) := by rw [hV, hs]; exact ((CellsAt.new _ _ _).alloc _).alloc _
  have HD0 : Hid (CellsAt V (s + 1) (doAr z k label a fam) 43) := by
    have h := CellsAt.new (w.alloc (.cells (ribAr most A L.length c) 27)) (doAr z k label a fam) 43
    rw [World.size_alloc] at h
    rw [hV, hs]
    exact h.alloc _
  have HQ0 : Hid (CellsAt V (s + 2) (ribAr 0 none 0 0) 27) := by
    have h := CellsAt.new ((w.alloc (.cells (ribAr most A L.length c) 27)).alloc (.cells (doAr z k label a fam) 43)) (ribAr 0 none 0 0) 27
    rw [World.size_alloc, World.size_alloc] at h
    rw [hV, hs]
    exact h
  have HB : Hid (Below w.heap.size w V) := by rw [hV]; exact (((Below.refl _ _).alloc (Nat.le_refl _) _).alloc (by simp) _).alloc (by simp; omega) _
  have HS : Hid (s = w.heap.size) := hs
  have HRV : Hid (RibM V base b m most M) := HRIB.out.below HB.out
  have hms : m < s := by rw [hs]; exact HRIB.out.lt.2.1
  have hbs : b < s := by rw [hs]; exact HRIB.out.lt.1
  rw [← hs]
  clear hV hs
  obtain ⟨d0, ⟨d1, d2, d3, d4, d5, d6⟩, d23⟩ := do_cells HD0.out
  go_upto_region 2 with fail
  rw [HZ.out]
  clear HZ d0
  have HCP : Hid (Calls Tryz.prog 27 #[.pointer (some ⟨b, 0, none⟩)] V fun e w' => (∃ b2 m2 M2, e = .returned (.pointer (some ⟨b2, 0, none⟩)) ∧ RibM w' V.heap.size b2 m2 most M2 ∧ M2.Perm M) ∧ Below V.heap.size V w') := rcopyM_any HRV.out
  have HRNG : Hid (V.rangeAt (s + 1) 7 a.ar.toList) := do_attrs HD0.out
  have hmV : m < V.heap.size := HRV.out.lt.2.1
  clear d1 d2 d3 d4 d5 d6 d23
  go_wp2_with fail
  refine HCP.out.mono ?_
  rintro e w2 ⟨⟨b2, m2, M2, rfl, hr2, hp2⟩, hb2⟩
  have HC2 : Hid (RibM w2 V.heap.size b2 m2 most M2) := hr2
  have HPM : Hid (M2.Perm M) := hp2
  have HB2 : Hid (Below V.heap.size V w2) := hb2
  have HR2 : Hid (RibM w2 base b m most M) := HRV.out.below hb2
  have HNB : Hid (b2 ≠ m ∧ m2 ≠ m ∧ V.heap.size ≤ m2) := by
    obtain ⟨_, _, h1, h2, _⟩ := hr2.lt
    exact ⟨by omega, by omega, h2⟩
  have HRN2 : Hid (w2.rangeAt (s + 1) 7 a.ar.toList) := do_attrs (HD0.out.below hb2 HD0.out.lt)
  have HPT : Hid (Calls Tryz.prog 13 #[.pointer (some ⟨b, 0, none⟩), .agg #[.int .i64 k.fam, .int .u64 k.rd, .string k.addr, .int .i64 k.len, .int .u32 (k.id : Nat), .int .u32 (label : Nat)], a.v] w2 fun e w' => PutPost base b m most M (nlk k label) a.c w' e ∧ GrownX (fun i => i = m) w2 w') := rputM_any HR2.out k label HK.out HLB.out a ((HAO.out.below HB.out (Nat.le_refl _)).below hb2 (Nat.le_refl _)) HSZ.out (by have := HLEN.out; omega)
  obtain ⟨_, ⟨d1, d2, d3, d4, d5, d6⟩, d23⟩ := do_cells (HD0.out.below hb2 HD0.out.lt)
  clear hr2 hp2 hb2 HCP HRNG
  go_wp2_with (with_reducible show wpList _ _ _ (_ :: _) _ _; refine wpList_load_attrs_at rfl (.tmp 198) rfl (s + 1) 7 rfl a HRN2.out ?_)
  refine HPT.out.mono ?_
  rintro e w3 ⟨⟨rfl, hr3⟩, hg3⟩
  generalize (putC most M (nlk k label) a.c).1 = o1
  generalize (putC most M (nlk k label) a.c).2.1 = o2
  generalize (putC most M (nlk k label) a.c).2.2 = M3 at hr3
  have HR3 : Hid (RibM w3 base b m most M3) := hr3
  have HG3 : Hid (GrownX (fun i => i = m) w2 w3) := hg3
  clear hr3 hg3 HPT HRN2 d1 d2 d3 d4 d5 d6 d23
  have HMK := Lib.hid (rmarkM_any HR3.out 1)
  go_wp2_with fail
  refine HMK.out.mono ?_
  rintro e w4 ⟨⟨rfl, hr4⟩, hg4⟩
  generalize cntC M3 1 = o3
  generalize markC 1 M3 = M4 at hr4
  have HR4 : Hid (RibM w4 base b m most M4) := hr4
  have HG4 : Hid (GrownX (fun i => i = m) w2 w4) := HG3.out.trans hg4
  clear hr4 hg4 HMK HR3 HG3
  have HCL := Lib.hid (rclear_any HR4.out 2)
  go_wp2_with fail
  refine HCL.out.mono ?_
  rintro e Z ⟨⟨ov, T, O, rfl, hnl, _, _, _, hr5⟩, hg5⟩
  obtain ⟨A1, c1, rfl⟩ := OwnM.form hnl
  have HG5 : Hid (GrownX (fun i => i = m) w2 Z) := HG4.out.trans hg5
  clear hnl hr5 hg5 HCL HR4 HG4
  go_upto_region 33 with fail
  have HMB2 : Hid (∀ cs T fr, w2.heap[m]? ≠ some (.cells cs T fr)) := HR2.out.mapBlk
  have HVZX : Hid (GrownX (fun i => i = m) V Z) := (GrownX.of_below HB2.out).trans HG5.out
  have HQZ : Hid (CellsAt Z (s + 2) (ribAr 0 none 0 0) 27) := HQ0.out.grownX HVZX.out (by omega)
  have HBX : Hid (∀ W, GrownX (fun i => i = m ∨ i = s + 2) Z W → CellsAt W s (ribAr most A L.length c) 27) := fun W hW => (HR0.out.grownX HVZX.out (by omega)).grownX hW (by omega)
  have HRZ : Hid (RibM Z V.heap.size b2 m2 most M2) := HC2.out.keepX HG5.out HNB.out.1 HNB.out.2.1 (fun i hi => by rw [hi]; exact HMB2.out)
  have hsV : s + 2 < V.heap.size := HQ0.out.lt
  have hb2V : V.heap.size ≤ b2 := HRZ.out.lt.2.2.1
  refine wp_region_held_drew (S := fun w' => GrownX (fun i => i = m ∨ i = s + 2) Z w') (by kernel_rfl) ((GrownX.refl _ _).drew 1) (fun hHeld => ?_)
  refine wpAnyH_take (i := 0) (oi := { dst := some 205, op := Op.move (Operand.tmp 30), type := 23, pos := "law.go:75", after := #[], guard := none }) (v := ?_) rfl (by kernel_rfl) (by kernel_rfl) (by kernel_rfl) (fun _ _ _ h => h) (Or.inl ⟨by rfl, ?_⟩) hHeld ?_
  rotate_left
  · intro w hSw
    clear hSw
    go_simp
    try with_reducible rfl
  try simp only [Act.put, List.setIfInBounds_toArray, List.set_cons_zero, List.set_cons_succ]
  refine wpAnyH_take (i := 1) (oi := { dst := some 206, op := Op.load 27 (Operand.tmp 4), type := 27, pos := "law.go:75", after := #[{ on := 4, ground := Ground.gcOnly Departure.lateStores }], guard := none }) (v := Value.agg (ribAr most A L.length c)) rfl (by kernel_rfl) (by kernel_rfl) (by kernel_rfl) (fun _ _ _ h => h) (yields_rib (by rfl) (.tmp 4) rfl s (by rfl) most A L.length c (fun w hSw => HBX.out w hSw)) hHeld ?_
  try simp only [Act.put, List.setIfInBounds_toArray, List.set_cons_zero, List.set_cons_succ]
  refine wpAnyH_take (i := 2) (oi := { dst := some 207, op := Op.move (Operand.tmp 30), type := 23, pos := "law.go:75", after := #[{ on := 5, ground := Ground.gcOnly Departure.lateStores }], guard := none }) (v := ?_) rfl (by kernel_rfl) (by kernel_rfl) (by kernel_rfl) (fun _ _ _ h => h) (Or.inl ⟨by rfl, ?_⟩) hHeld ?_
  rotate_left
  · intro w hSw
    clear hSw
    go_simp
    try with_reducible rfl
  try simp only [Act.put, List.setIfInBounds_toArray, List.set_cons_zero, List.set_cons_succ]
  refine wpAnyH_take (i := 3) (oi := { dst := some 208, op := Op.binOp BinOp.neq 23 (Operand.tmp 207) (Operand.const (Value.pointer none)) 23, type := 4, pos := "law.go:75", after := #[{ on := 2, ground := Ground.data }, { on := 5, ground := Ground.gcOnly Departure.lateStores }], guard := none }) (v := ?_) rfl (by kernel_rfl) (by kernel_rfl) (by kernel_rfl) (fun _ _ _ h => h) (Or.inl ⟨by rfl, ?_⟩) hHeld ?_
  rotate_left
  · intro w hSw
    clear hSw
    go_simp
    try with_reducible rfl
  try simp only [Act.put, List.setIfInBounds_toArray, List.set_cons_zero, List.set_cons_succ]
  refine wpAnyH_take (i := 4) (oi := { dst := some 6, op := Op.assign (Operand.tmp 205), type := 23, pos := "law.go:75", after := #[{ on := 0, ground := Ground.data }, { on := 0, ground := Ground.phase }, { on := 1, ground := Ground.textOnly Departure.lateStores }, { on := 2, ground := Ground.textOnly Departure.lateStores }, { on := 3, ground := Ground.textOnly Departure.lateStores }], guard := none }) (v := ?_) rfl (by kernel_rfl) (by kernel_rfl) (by kernel_rfl) (fun _ _ _ h => h) (Or.inl ⟨by rfl, ?_⟩) hHeld ?_
  rotate_left
  · intro w hSw
    clear hSw
    go_simp
    try with_reducible rfl
  try simp only [Act.put, List.setIfInBounds_toArray, List.set_cons_zero, List.set_cons_succ]
  refine wpAnyH_ready (rs := [5]) (by kernel_rfl) (by simp) ?_
  refine AllReadyH.cons (o := { dst := none, op := Op.store 27 (Operand.tmp 7) (Operand.tmp 206), type := 0, pos := "law.go:75", after := #[{ on := 1, ground := Ground.data }, { on := 4, ground := Ground.chain }, { on := 0, ground := Ground.phase }, { on := 1, ground := Ground.phase }, { on := 2, ground := Ground.textOnly Departure.lateStores }, { on := 3, ground := Ground.textOnly Departure.lateStores }, { on := 4, ground := Ground.phase }], guard := none }) rfl (fun K hK => ?_) AllReadyH.nil
  refine wp_store_row 27 (.tmp 7) (.tmp 206) rfl (s + 2) (ribAr most A L.length c) rfl rfl 27 _ (HQZ.out.drew 1) (by rw [rib_size]; rfl) rfl (rib_ones _ _ _ _) ?_
  refine hK.out _ _ (hHeld.trans (GrownX.of_row (X := fun i => i = m ∨ i = s + 2) (grown_setRow' _ _ _) (.inr rfl))) (fun hHeld => ?_)
  clear hK K
  try simp only [Act.put, List.setIfInBounds_toArray, List.set_cons_zero, List.set_cons_succ]
  refine wpAnyH_take (i := 6) (oi := { dst := some 8, op := Op.assign (Operand.tmp 208), type := 4, pos := "law.go:75", after := #[{ on := 3, ground := Ground.data }, { on := 5, ground := Ground.chain }, { on := 0, ground := Ground.phase }, { on := 1, ground := Ground.phase }, { on := 2, ground := Ground.phase }, { on := 3, ground := Ground.phase }, { on := 4, ground := Ground.phase }, { on := 5, ground := Ground.phase }], guard := none }) (v := ?_) rfl (by kernel_rfl) (by kernel_rfl) (by kernel_rfl) (fun _ _ _ h => h) (Or.inl ⟨by rfl, ?_⟩) hHeld ?_
  rotate_left
  · intro w hSw
    clear hSw
    go_simp
    try with_reducible rfl
  try simp only [Act.put, List.setIfInBounds_toArray, List.set_cons_zero, List.set_cons_succ]
  refine wpAnyH_done (by kernel_rfl) ?_ _
  have HF : Hid (CellsAt (Z.drew.setRow (s + 2) (ribAr most A L.length c)) (s + 2) (ribAr most A L.length c) 27) := (show CellsAt Z.drew (s + 2) _ 27 from HQZ.out.drew 1).setRow' _
  have hgr := grown_setRow' Z.drew (s + 2) (ribAr most A L.length c)
  have hm2V := HNB.out.2.2
  have HRF : Hid (RibM (Z.drew.setRow (s + 2) (ribAr most A L.length c)) V.heap.size b2 m2 most M2) := HRZ.out.drew_.offT hgr (HQZ.out.drew 1) (by omega) (by omega)
  have HGF : Hid (GrownX (fun i => i = m) w (Z.drew.setRow (s + 2) (ribAr most A L.length c))) := (((GrownX.of_below HB.out).trans HVZX.out).drew 1).new_ (GrownX.of_row (X := fun i => i = s + 2) hgr rfl) (fun i hi => by rw [hi]; have := HS.out; omega)
  have HPF : Hid (PhL (Z.drew.setRow (s + 2) (ribAr most A L.length c)) A c L) := HPH.out.keepX HGF.out (fun i hi => by rw [hi]; exact HRIB.out.mapBlk)
  have HLM : Hid (M2.length ≤ M.length + 1) := by show _ ≤ _; rw [HPM.out.length_eq]; omega
  have HWV : Hid (w.heap.size ≤ m2) := Nat.le_trans HB.out.size hm2V
  clear hHeld
  go_wp2_with fail
  exact bodyPost_ret (results_step rfl _ _ (s + 2) most A L.length c (.pointer (some ⟨b2, 0, none⟩)) (.bool true) rfl rfl rfl HF.out) rfl ⟨b2, m2, M2, A, c, L, rfl, ⟨⟨V.heap.size, HRF.out⟩, HPF.out, ⟨HREL.out.1.trans HPM.out.symm, HREL.out.2⟩⟩, HLM.out, .inr HWV.out, HGF.out, .inl ⟨rfl, rfl, rfl⟩⟩
end Go.Proofs.YtldpcliahfiloaaGreat
set_option linter.unusedVariables false
set_option linter.unusedSimpArgs false
namespace Go.Proofs.YtldpcliahfiloaaGreat
open Go.RowKit Go.MapKept Go.Shelf
open Go.ChangeShapes Go.WideShapes Go.ChangeAt
open Go.ChangeMaps (open_string shut_string)
open Go.Lib hiding intOf
open Go.Sort hiding Below

theorem mod7_of (z : Int) : ∃ n : Nat, n < 7 ∧ (wrap64 (z.tmod 7 + 7)).tmod 7 = n := by
  have h1 : -7 < z.tmod 7 ∧ z.tmod 7 < 7 := ⟨by have := Int.lt_tmod_of_pos z (show (0 : Int) < 7 by decide); omega, Int.tmod_lt_of_pos z (by decide)⟩
  have e1 : wrap64 (z.tmod 7 + 7) = z.tmod 7 + 7 := IntWalk.wrap64_in _ (by omega)
  have e2 : (z.tmod 7 + 7).tmod 7 = (z.tmod 7 + 7) % 7 := Int.tmod_eq_emod_of_nonneg (by omega)
  refine ⟨((z.tmod 7 + 7) % 7).toNat, by omega, ?_⟩
  rw [e1, e2]
  omega
theorem step_any {w : World} {b m : Nat} {most : Int} {M : List TdC} {A : Option Addr} {c : Nat} {L : List Td} (h : StP w b m most M A c L) (hlen : M.length ≤ 800) (z : Int) (k : Pk) (hk : k.Ok) (label : Nat) (hl : label < 4294967296) (a : Atr) (ha : AtrOk w a) (hsz : AtrSz a.c) (fam : Int) :
    Calls Tryz.prog 5 #[.pointer (some ⟨b, 0, none⟩), .agg (ribAr most A L.length c), .agg (doAr z k label a fam)] w fun e w' => StepPost w m most M A c L w' e := by
  obtain ⟨n, hn, e⟩ := mod7_of z
  rcases (show n = 0 ∨ n = 1 ∨ n = 2 ∨ n = 3 ∨ n = 4 ∨ n = 5 ∨ n = 6 by omega) with rfl | rfl | rfl | rfl | rfl | rfl | rfl
  · exact step0_any h hlen z e k hk label hl a ha hsz fam
  · exact step1_any h hlen z e k hk label hl a ha hsz fam
  · exact step2_any h hlen z e k hk label hl a ha hsz fam
  · exact step3_any h hlen z e k hk label hl a ha hsz fam
  · exact step4_any h hlen z e k hk label hl a ha hsz fam
  · exact step5_any h hlen z e k hk label hl a ha hsz fam
  · exact step6_any h hlen z e k hk label hl a ha hsz fam
/-- a step that came in -/
structure Dv where
  z : Int
  k : Pk
  label : Nat
  a : Atr
  fam : Int
def Dv.cs (d : Dv) : List Value := (doAr d.z d.k d.label d.a d.fam).toList
theorem Dv.cs_len (d : Dv) : d.cs.length = 24 := rfl
structure Dv.Ok (w : World) (d : Dv) : Prop where
  k : d.k.Ok
  label : d.label < 4294967296
  a : AtrOk w d.a
  sz : AtrSz d.a.c
structure DosOk (w : World) (A : Option Addr) (c : Nat) (D : List Dv) : Prop where
  rd : Rd w A 24 (D.map Dv.cs)
  len : D.length ≤ c
  cap : c ≤ 9223372036854775807
  ok : ∀ d ∈ D, d.Ok w
theorem DosOk.below {w w' : World} {A : Option Addr} {c : Nat} {D : List Dv} (h : DosOk w A c D) (hb : Below w.heap.size w w') : DosOk w' A c D :=
  ⟨h.rd.below hb (Nat.le_refl _), h.len, h.cap, fun d hd => { h.ok d hd with a := (h.ok d hd).a.below hb (Nat.le_refl _) }⟩
theorem DosOk.row {w : World} {A : Option Addr} {c i : Nat} {D : List Dv} {d : Dv} (h : DosOk w A c D) (hi : D[i]? = some d) :
    ∃ b off, A = some ⟨b, off, none⟩ ∧ ∀ W, Below w.heap.size w W → W.rangeAt b (off + i * 24) (doAr d.z d.k d.label d.a d.fam).toList ∧ W.cell? ⟨b, off + i * 24 + 1, none⟩ = some (.int .i64 d.k.fam) := by
  obtain ⟨b, off, e, hlt, hc⟩ := Rd.at_ h.rd (i := i) (cs := d.cs) (by rw [List.getElem?_map, hi]; rfl)
  exact ⟨b, off, e, fun W hW => ⟨fun j u hu => (hW.cell (p := ⟨b, _, none⟩) hlt).trans (hc j u hu), (hW.cell (p := ⟨b, _, none⟩) hlt).trans (hc 1 _ rfl)⟩⟩
section
variable {H : Type} {enc : TypeId × Value → H} {w : World} {held : Bool}
set_option maxRecDepth 100000 in
theorem open_nr {n : Nat} {u0 u1 u2 u3 u4 u5 : Value} {y : DataW H × List MemPlace} (ht : DataW.trod enc Tryz.prog w 0 (fun _ => true) held n 35 [u0, u1, u2, u3, u4, u5] = some y) (hwy : Light Tryz.prog 35 y.1) : ∃ (k : Pk) (label : Nat), [u0, u1, u2, u3, u4, u5] = Nr.cs ⟨k, label⟩ ∧ k.Ok ∧ label < 4294967296 := by
  obtain ⟨_, _, fp, gp⟩ := trod_field Tryz.underlying35 ht hwy 0 32 0 4 ⟨_, rfl, rfl, rfl⟩ (by kernel_rfl)
  obtain ⟨_, _, f4, _⟩ := trod_field Tryz.underlying35 ht hwy 1 33 4 1 ⟨_, rfl, rfl, rfl⟩ (by kernel_rfl)
  obtain ⟨_, _, f5, _⟩ := trod_field Tryz.underlying35 ht hwy 2 33 5 1 ⟨_, rfl, rfl, rfl⟩ (by kernel_rfl)
  simp only [List.drop_succ_cons, List.drop_zero, List.take_succ_cons, List.take_zero] at fp f4 f5
  obtain ⟨_, _, f0, _⟩ := trod_field Tryz.underlying32 fp gp 0 3 0 1 ⟨_, rfl, rfl, rfl⟩ (by kernel_rfl)
  obtain ⟨_, _, f1, _⟩ := trod_field Tryz.underlying32 fp gp 1 30 1 1 ⟨_, rfl, rfl, rfl⟩ (by kernel_rfl)
  obtain ⟨_, _, f2, g2⟩ := trod_field Tryz.underlying32 fp gp 2 9 2 1 ⟨_, rfl, rfl, rfl⟩ (by kernel_rfl)
  obtain ⟨_, _, f3, _⟩ := trod_field Tryz.underlying32 fp gp 3 3 3 1 ⟨_, rfl, rfl, rfl⟩ (by kernel_rfl)
  simp only [List.drop_succ_cons, List.drop_zero, List.take_succ_cons, List.take_zero] at f0 f1 f2 f3
  obtain ⟨z0, rfl, p0, q0⟩ := isI64 Tryz.underlying3 f0
  obtain ⟨z1, rfl, p1, q1⟩ := isU64 Tryz.underlying30 f1
  obtain ⟨s, e2, d2, s2⟩ := DataW.trod_string Tryz.underlying9 f2
  simp only [List.cons.injEq, and_true] at e2
  subst e2
  obtain ⟨z3, rfl, p3, q3⟩ := isI64 Tryz.underlying3 f3
  obtain ⟨z4, rfl, p4, q4⟩ := isU32 Tryz.underlying33 f4
  obtain ⟨z5, rfl, p5, q5⟩ := isU32 Tryz.underlying33 f5
  obtain ⟨z4, rfl⟩ := Int.eq_ofNat_of_zero_le p4
  obtain ⟨z5, rfl⟩ := Int.eq_ofNat_of_zero_le p5
  have hs : s.size ≤ 140737488351232 := g2 _ (by rw [d2]; simp [DataW.weights])
  exact ⟨⟨z0, z1, s, z3, z4⟩, z5, rfl, ⟨by show -9223372036854775808 ≤ z0 ∧ z0 ≤ 9223372036854775807; omega, by show 0 ≤ z1 ∧ z1 < 18446744073709551616; omega, by show s.size ≤ 9223372036854775807; omega, by show -9223372036854775808 ≤ z3 ∧ z3 ≤ 9223372036854775807; omega, by show z4 < 4294967296; omega⟩, by omega⟩
set_option maxRecDepth 100000 in
theorem open_dos {fuel : Nat} {v : Value} {x : DataW H × List MemPlace} (h : DataW.trod enc Tryz.prog w 0 (fun _ => true) held fuel 22 [v] = some x) (hw : Light Tryz.prog 22 x.1) :
    ∃ (A : Option Addr) (l : List Dv) (cap : Nat), v = .slice A l.length cap ∧ DosOk w A cap l := by
  obtain ⟨A, l, cap, h1, h2, h3, h4, h5, h6⟩ := open_list Dv.cs (fun d => d.Ok w) Tryz.underlying22 (C := 24) (by kernel_rfl) (by decide) (fun _ => rfl) (fun n cs y hl ht hwy => by
    match cs, hl with
    | [u0, u1, u2, u3, u4, u5, u6, u7, u8, u9, u10, u11, u12, u13, u14, u15, u16, u17, u18, u19, u20, u21, u22, u23], _ =>
      obtain ⟨_, _, f0, _⟩ := trod_field Tryz.underlying43 ht hwy 0 3 0 1 ⟨_, rfl, rfl, rfl⟩ (by kernel_rfl)
      obtain ⟨_, _, f1, g1⟩ := trod_field Tryz.underlying43 ht hwy 1 35 1 6 ⟨_, rfl, rfl, rfl⟩ (by kernel_rfl)
      obtain ⟨_, _, f2, g2⟩ := trod_field Tryz.underlying43 ht hwy 2 41 7 16 ⟨_, rfl, rfl, rfl⟩ (by kernel_rfl)
      obtain ⟨_, _, f3, _⟩ := trod_field Tryz.underlying43 ht hwy 3 3 23 1 ⟨_, rfl, rfl, rfl⟩ (by kernel_rfl)
      simp only [List.drop_succ_cons, List.drop_zero, List.take_succ_cons, List.take_zero] at f0 f1 f2 f3
      obtain ⟨z0, rfl, p0, q0⟩ := isI64 Tryz.underlying3 f0
      obtain ⟨z3, rfl, p3, q3⟩ := isI64 Tryz.underlying3 f3
      obtain ⟨k, label, e1, hk, hl1⟩ := open_nr f1 g1
      obtain ⟨a, e2, ha1, ha2⟩ := open_attrs f2 g2 rfl
      unfold Nr.cs at e1
      unfold Atr.cs at e2
      simp only [List.cons.injEq, and_true] at e1 e2
      obtain ⟨rfl, rfl, rfl, rfl, rfl, rfl⟩ := e1
      obtain ⟨rfl, rfl, rfl, rfl, rfl, rfl, rfl, rfl, rfl, rfl, rfl, rfl, rfl, rfl, rfl, rfl⟩ := e2
      exact ⟨⟨z0, k, label, a, z3⟩, rfl, ⟨hk, hl1, ha1, ha2⟩⟩) h hw
  exact ⟨A, l, cap, h1, ⟨h2, h4, h5, h3⟩⟩
end
end Go.Proofs.YtldpcliahfiloaaGreat
