/-
  Several texts in one.
-/
import Derived.Test.YtldpcliahfiloaaGreatPW52
set_option linter.unusedVariables false
set_option linter.unusedSimpArgs false
namespace Go.Proofs.YtldpcliahfiloaaGreat
open Go.RowKit Go.MapKept Go.Shelf
open Go.ChangeShapes Go.WideShapes Go.ChangeAt
open Go.ChangeMaps (open_string shut_string)
open Go.Lib hiding intOf
open Go.Sort hiding Below

theorem GrownX.mix {X Y : Nat → Prop} {w a c : World} (h : GrownX X w a) (k : GrownX Y a c) (hY : ∀ i, Y i → X i ∨ w.heap.size ≤ i) : GrownX X w c :=
  ⟨k.os.trans h.os, k.tape.trans h.tape, k.output.trans h.output, Nat.le_trans h.size k.size, fun i hi hx => (k.block i (Nat.lt_of_lt_of_le hi h.size) (fun hy => by
    rcases hY i hy with h1 | h1
    · exact hx h1
    · omega)).trans (h.block i hi hx)⟩
theorem putC_len {most : Int} {M : List TdC} {n : Nl} {c : AtC} : (putC most M n c).2.2.length ≤ M.length + 1 := by
  unfold putC
  split
  · exact Nat.le_succ _
  · split
    · exact Nat.le_succ _
    · show (setC _ _).length ≤ _
      rw [setC_len]
      split <;> omega
theorem load_attrs_o_g {ops : Array Oper} {rest : List Oper} {op : Oper} {a : Act} {w : World} {Q : Exit → Act → World → Prop} (hw : Region.wanted op (yielded ops a.tmps) = true) (src : Operand) (ho : op.op = .load 41 src) (b o : Nat) (hx : a.eval src = .pointer (some ⟨b, o, none⟩)) (p : Atr) (hc : w.rangeAt b o p.ar.toList)
    (h : wpList Tryz.prog ops Q rest (a.put op.dst p.v) w) : wpList Tryz.prog ops Q (op :: rest) a w := by
  obtain ⟨fs, hu⟩ := attrs_under
  refine wpList_step fun K hK => ?_
  rw [if_pos hw]
  exact wp_load_mid 41 src ho b o hx p.ar.toList _ hc hu rfl (by rw [attrs_size]; rfl) (hK _ _ h)
theorem build_pa (p : Atr) : ∀ W : World, (Instr.build 64 #[(3, .agg p.ar)]).run Tryz.prog W = .ok (.agg (pathAr noPk 0 p false)) W := fun W => by
  unfold Atr.ar
  exact run_build W _ _ _ (by kernel_rfl)
theorem wpList_build_pa {ops : Array Oper} {rest : List Oper} {op : Oper} {a : Act} {W : World} {Q : Exit → Act → World → Prop} (hgd : op.guard = none) (T1 : Operand) (ho : op.op = .build 64 #[(3, T1)]) (p : Atr) (h1 : a.eval T1 = p.v)
    (h : wpList Tryz.prog ops Q rest (a.put op.dst (.agg (Td.pa ⟨noPk, 0, p, false⟩))) W) : wpList Tryz.prog ops Q (op :: rest) a W :=
  wpList_plain hgd fun _ hK => by
    have e : ((#[(3, T1)] : Array (Nat × Operand)).map fun (i, x) => (i, a.eval x)) = #[(3, .agg p.ar)] := by
      simp only [List.map_toArray, List.map_cons, List.map_nil, h1]
      rfl
    unfold Oper.wp execOp
    simp only [ho, Sem.run_bind, e, build_pa p W, Result.andThen_ok]
    exact hK _ _ h
set_option maxRecDepth 100000 in
set_option maxHeartbeats 16000000 in
theorem step0_any {w : World} {b m : Nat} {most : Int} {M : List TdC} {A : Option Addr} {c : Nat} {L : List Td} (h : StP w b m most M A c L) (hlen : M.length ≤ 800) (z : Int) (hz : (wrap64 (z.tmod 7 + 7)).tmod 7 = 0) (k : Pk) (hk : k.Ok) (label : Nat) (hl : label < 4294967296) (a : Atr) (ha : AtrOk w a) (hsz : AtrSz a.c) (fam : Int) :
    Calls Tryz.prog 5 #[.pointer (some ⟨b, 0, none⟩), .agg (ribAr most A L.length c), .agg (doAr z k label a fam)] w fun e w' => StepPost w m most M A c L w' e := by
  obtain ⟨⟨base, hrib⟩, hph, hrel⟩ := h
  have HRIB := Lib.hid hrib
  have HPH := Lib.hid hph
  have HREL := Lib.hid hrel
  have HK := Lib.hid hk
  have HLB := Lib.hid hl
  have HAO := Lib.hid ha
  have HSZ := Lib.hid hsz
  have HZ := Lib.hid hz
  have HLEN : Hid (M.length ≤ 800) := hlen
  have hLl : L.length ≤ 800 := by have := hrel.len; rw [List.length_map] at this; omega
  clear hrib hph hrel hk hl ha hsz hz hlen
  go_enter Tryz.func5, Tryz.ntmps5
  go_upto_region 1 with fail
  refine rb_name fun V hV => ?_
  obtain ⟨s, hs⟩ : ∃ s, s = w.heap.size := ⟨_, rfl⟩
  have HR0 : Hid (CellsAt V s (ribAr most A L.length c) 27) := by rw [hV, hs]; exact ((CellsAt.new _ _ _).alloc _).alloc _
  have HD0 : Hid (CellsAt V (s + 1) (doAr z k label a fam) 43) := by
    have h := CellsAt.new (w.alloc (.cells (ribAr most A L.length c) 27)) (doAr z k label a fam) 43
    rw [World.size_alloc] at h
    rw [hV, hs]
    exact h.alloc _
  have HQ0 : Hid (CellsAt V (s + 2) (ribAr 0 none 0 0) 27) := by
    have h := CellsAt.new ((w.alloc (.cells (ribAr most A L.length c) 27)).alloc (.cells (doAr z k label a fam) 43)) (ribAr 0 none 0 0) 27
    rw [World.size_alloc, World.size_alloc] at h
    rw [hV, hs]
    exact h
  have HB : Hid (Below w.heap.size w V) := by rw [hV]; exact (((Below.refl _ _).alloc (Nat.le_refl _) _).alloc (by simp) _).alloc (by simp; omega) _
  have HS : Hid (s = w.heap.size) := hs
  have HRV : Hid (RibM V base b m most M) := HRIB.out.below HB.out
  have hms : m < s := by rw [hs]; exact HRIB.out.lt.2.1
  have hbs : b < s := by rw [hs]; exact HRIB.out.lt.1
  rw [← hs]
  clear hV hs
  obtain ⟨d0, ⟨d1, d2, d3, d4, d5, d6⟩, d23⟩ := do_cells HD0.out
  go_upto_region 2 with fail
  rw [HZ.out]
  clear HZ d0
  have HOWN : Hid (Calls Tryz.prog 12 #[a.v] V fun e w' => (∃ a' : Atr, e = .returned (.agg a'.ar) ∧ AtO w' V.heap.size a' ∧ a'.c = a.c) ∧ Below V.heap.size V w') := rown_any a V (HAO.out.below HB.out (Nat.le_refl _)) HSZ.out
  obtain ⟨S, hS, hSM⟩ := HRV.out
  have HSV : Hid (RibAt V base b m most S) := hS
  have HSM : Hid (S.map Td.c = M) := hSM
  have HRNG : Hid (V.rangeAt (s + 1) 7 a.ar.toList) := do_attrs HD0.out
  have HSL : Hid (S.length < 1000) := by
    have h1 := HLEN.out
    rw [← hSM, List.length_map] at h1
    show _ < _
    omega
  obtain ⟨q1, q2, q3⟩ := HREL.out.putD most k label a.c
  have HML : Hid ((putC most M (nlk k label) a.c).2.2.length ≤ M.length + 1) := putC_len
  have HPR : Hid (∀ W, PhL W A c L → AtrOk W a → Calls Tryz.prog 14 #[.agg (ribAr most A L.length c), .agg #[.int .i64 k.fam, .int .u64 k.rd, .string k.addr, .int .i64 k.len, .int .u32 (k.id : Nat), .int .u32 (label : Nat)], a.v] W fun e w' => (∃ A' c' L', e = .returned (.tuple #[.agg (ribAr most A' (List.length L') c'), .bool (putC most M (nlk k label) a.c).1, .int .i64 (putC most M (nlk k label) a.c).2.1]) ∧ NewL W w' A c L A' c' L' ∧ Rel (putC most M (nlk k label) a.c).2.2 (L'.map Td.c)) ∧ Below W.heap.size W w') := fun W h1 h2 => by
    refine (put22_any h1 HREL.out.2 (by omega) most k HK.out label HLB.out a h2 HSZ.out).mono ?_
    rintro e w' ⟨⟨A', c', L', he, hn, hc⟩, hb⟩
    exact ⟨⟨A', c', L', by rw [he, q1, q2], hn, by rw [hc]; exact q3⟩, hb⟩
  clear hS hSM q1 q2 q3
  go_wp2_with (with_reducible show wpList _ _ _ (_ :: _) _ _; refine wpList_load_attrs_at rfl (.tmp 38) rfl (s + 1) 7 rfl a HRNG.out ?_)
  refine HOWN.out.mono ?_
  rintro e w2 ⟨⟨a1, rfl, ho, hc⟩, hb2⟩
  have HAO2 : Hid (AtO w2 V.heap.size a1) := ho
  have HC1 : Hid (a1.c = a.c) := hc
  have HB2 : Hid (Below V.heap.size V w2) := hb2
  have HVW : Hid (V.heap.size ≤ w2.heap.size) := hb2.size
  have HN : Hid (∀ cs : Array Value, CellsAt (w2.alloc (.cells cs 41)) w2.heap.size cs 41) := fun cs => CellsAt.new _ _ _
  clear ho hc hb2 HOWN HRNG d1 d2 d3 d4 d5 d6 d23
  go_upto_region 4 with (with_reducible show wpList _ _ _ (_ :: _) _ _; refine wpList_store_attrs_row rfl (.tmp 9) (.tmp 40) rfl w2.heap.size rfl a1 rfl _ (HN.out _) rfl ?_)
  refine rb_name fun Z1 hZ => ?_
  have HBZ1 : Hid (Below w2.heap.size w2 Z1) := by rw [hZ]; exact ((Below.refl _ _).alloc (Nat.le_refl _) _).grown (grown_setRow' _ _ _) (by simp) (fun q hq => by cases hq; exact Nat.le_refl _)
  obtain ⟨g1, hg1⟩ : ∃ x, x = w2.heap.size := ⟨_, rfl⟩
  have HG1 : Hid (CellsAt Z1 g1 a1.ar 41) := by rw [hZ, hg1]; exact (HN.out _).setRow' _
  have HGE : Hid (g1 = w2.heap.size) := hg1
  have HV1 : Hid (Below V.heap.size V Z1) := HB2.out.trans (HBZ1.out.mono HB2.out.size)
  have HA1 : Hid (AtO Z1 V.heap.size a1) := AtO.below HAO2.out HBZ1.out
  try rw [← hg1]
  try simp only [Act.put]
  obtain ⟨_, ⟨d1, d2, d3, d4, d5, d6⟩, d23⟩ := do_cells (HD0.out.below HV1.out HD0.out.lt)
  have HPT : Hid (Calls Tryz.prog 13 #[.pointer (some ⟨b, 0, none⟩), .agg #[.int .i64 k.fam, .int .u64 k.rd, .string k.addr, .int .i64 k.len, .int .u32 (k.id : Nat), .int .u32 (label : Nat)], a1.v] Z1 fun e w' => (e = .returned (.tuple #[.bool (putC most M (nlk k label) a.c).1, .int .i64 (putC most M (nlk k label) a.c).2.1]) ∧ ∃ S', RibAt w' base b m most S' ∧ S'.map Td.c = (putC most M (nlk k label) a.c).2.2 ∧ ∀ p ∈ S', p ∈ S ∨ AtO w' Z1.heap.size p.a) ∧ GrownX (fun i => i = m) Z1 w') := by
    have h := rputF_any Z1 base b m most S (HSV.out.below HV1.out) k label HK.out HLB.out a1 HA1.out.ok (by show AtrSz a1.c; rw [HC1.out]; exact HSZ.out) HSL.out
    unfold PutPostF at h
    rw [HC1.out, HSM.out] at h
    exact h
  generalize putC most M (nlk k label) a.c = pr at HPT HPR HML
  obtain ⟨ov, en, M2⟩ := pr
  dsimp only at HPT HPR HML
  clear hZ hg1 HN HB2 HSL
  go_wp2_with (with_reducible show wpList _ _ _ (_ :: _) _ _; refine wpList_load_attrs rfl (.tmp 9) rfl g1 rfl a1 HG1.out ?_)
  refine HPT.out.mono ?_
  rintro e w3 ⟨⟨rfl, S', hS', hM', hfr⟩, hg3⟩
  have HR3 : Hid (RibAt w3 base b m most S') := hS'
  have HM3 : Hid (S'.map Td.c = M2) := hM'
  have HFR : Hid (∀ p ∈ S', p ∈ S ∨ AtO w3 Z1.heap.size p.a) := hfr
  have HGR3 : Hid (GrownX (fun i => i = m) Z1 w3) := hg3
  have HMB1 : Hid (∀ cs T fr, Z1.heap[m]? ≠ some (.cells cs T fr)) := (HSV.out.below HV1.out).mapBlk
  have HA3 : Hid (AtO w3 V.heap.size a1) := AtO.keepX HA1.out hg3 (fun i hi => by rw [hi]; exact HMB1.out)
  have hg1m : g1 ≠ m := by
    have h1 := HSV.out.lt.2
    have h2 := HV1.out.size
    have h3 := HGE.out
    have h4 := HBZ1.out.size
    intro e
    have h5 : m < V.heap.size := h1
    have h6 : V.heap.size ≤ w2.heap.size := HVW.out
    omega
  have HG3 : Hid (CellsAt w3 g1 a1.ar 41) := HG1.out.grownX hg3 hg1m
  have HD3 : Hid (CellsAt w3 (s + 1) (doAr z k label a fam) 43) := (HD0.out.below HV1.out HD0.out.lt).grownX hg3 (by omega)
  have HRB3 : Hid (CellsAt w3 s (ribAr most A L.length c) 27) := (HR0.out.below HV1.out HR0.out.lt).grownX hg3 (by omega)
  have HQ3 : Hid (CellsAt w3 (s + 2) (ribAr 0 none 0 0) 27) := (HQ0.out.below HV1.out HQ0.out.lt).grownX hg3 (by omega)
  have HP3 : Hid (PhL w3 A c L) := ((HPH.out.below HB.out).below HV1.out).keepX hg3 (fun i hi => by rw [hi]; exact HMB1.out)
  have HAT3 : Hid (AtrOk w3 a) := ((HAO.out.below HB.out (Nat.le_refl _)).below HV1.out (Nat.le_refl _)).keepX hg3 (fun i hi => by rw [hi]; exact HMB1.out)
  have HRN3 : Hid (w3.rangeAt (s + 1) 7 a.ar.toList) := do_attrs HD3.out
  clear hS' hM' hfr hg3 HPT HA1 HG1 d1 d2 d3 d4 d5 d6 d23
  obtain ⟨_, ⟨d1, d2, d3, d4, d5, d6⟩, d23⟩ := do_cells HD3.out
  go_wp2_with (with_reducible show wpList _ _ _ (_ :: _) _ _; first | refine wpList_load_rib rfl (.tmp 4) rfl s rfl most A L.length c HRB3.out ?_ | refine wpList_load_attrs_at rfl (.tmp 53) rfl (s + 1) 7 rfl a HRN3.out ?_)
  refine (HPR.out w3 HP3.out HAT3.out).mono ?_
  rintro e w4 ⟨⟨A', c', L2, rfl, hnew, hrl⟩, hb4⟩
  have HNEW : Hid (NewL w3 w4 A c L A' c' L2) := hnew
  have HRL : Hid (Rel M2 (L2.map Td.c)) := hrl
  have HB4 : Hid (Below w3.heap.size w3 w4) := hb4
  have HN : Hid (∀ cs : Array Value, CellsAt (w4.alloc (.cells cs 27)) w4.heap.size cs 27) := fun cs => CellsAt.new _ _ _
  clear hnew hrl hb4 HPR d1 d2 d3 d4 d5 d6 d23 HRN3
  generalize hn2 : List.length L2 = n2
  have HNN := Lib.hid hn2
  clear hn2
  go_upto_region 6 with (with_reducible show wpList _ _ _ (_ :: _) _ _; refine wpList_store_rib rfl (.tmp 12) (.tmp 56) rfl w4.heap.size rfl most A' n2 c' rfl _ (HN.out _) rfl ?_)
  refine rb_name fun Z2 hZ => ?_
  have HBZ2 : Hid (Below w4.heap.size w4 Z2) := by rw [hZ]; exact ((Below.refl _ _).alloc (Nat.le_refl _) _).grown (grown_setRow' _ _ _) (by simp) (fun q hq => by cases hq; exact Nat.le_refl _)
  obtain ⟨g2, hg2⟩ : ∃ x, x = w4.heap.size := ⟨_, rfl⟩
  have HG2 : Hid (CellsAt Z2 g2 (ribAr most A' n2 c') 27) := by rw [hZ, hg2]; exact (HN.out _).setRow' _
  have HGE2 : Hid (g2 = w4.heap.size) := hg2
  have HB32 : Hid (Below w3.heap.size w3 Z2) := HB4.out.trans (HBZ2.out.mono HB4.out.size)
  try rw [← hg2]
  try simp only [Act.put]
  have HC2 : Hid (CellsAt Z2 g1 a1.ar 41) := HG3.out.below HB32.out HG3.out.lt
  have HRN2 : Hid (Z2.rangeAt (s + 1) 7 a.ar.toList) := do_attrs (HD3.out.below HB32.out HD3.out.lt)
  have HSAM : Hid (Calls Tryz.prog 15 #[a1.v, a.v] Z2 fun e w' => e = .returned (.bool true) ∧ Below Z2.heap.size Z2 w') := by
    have h := rsame_any a1 a Z2 (AtO.below HA3.out HB32.out).ok (HAT3.out.below HB32.out (Nat.le_refl _))
    rwa [decide_eq_true HC1.out] at h
  clear hZ hg2 HN
  go_wp2_with (first | (with_reducible show wpList _ _ _ (⟨some 68, _, _, _, _, _⟩ :: _) _ _; refine rb_load_attrs_g (by as_aux_lemma => kernel_rfl) (.tmp 9) rfl g1 rfl a1 HC2.out ?_) | (with_reducible show wpList _ _ _ (⟨some 70, _, _, _, _, _⟩ :: _) _ _; refine load_attrs_o_g (by as_aux_lemma => kernel_rfl) (.tmp 69) rfl (s + 1) 7 rfl a HRN2.out ?_))
  refine HSAM.out.mono ?_
  rintro e w5 ⟨rfl, hb5⟩
  have HB35 : Hid (Below w3.heap.size w3 w5) := HB32.out.trans (hb5.mono HB32.out.size)
  have HB45 : Hid (Below w4.heap.size w4 w5) := HBZ2.out.trans (hb5.mono HBZ2.out.size)
  have HC5 : Hid (CellsAt w5 g1 a1.ar 41) := HC2.out.below hb5 HC2.out.lt
  have HG5 : Hid (CellsAt w5 g2 (ribAr most A' n2 c') 27) := HG2.out.below hb5 HG2.out.lt
  clear hb5 HSAM HC2 HRN2 HG2 HBZ2 HB32
  go_wp2_with (first | (with_reducible show wpList _ _ _ (⟨some 73, _, _, _, _, _⟩ :: _) _ _; refine wpList_load_attrs rfl (.tmp 9) rfl g1 rfl a1 HC5.out ?_) | (with_reducible show wpList _ _ _ (⟨some 74, _, _, _, _, _⟩ :: _) _ _; refine wpList_build_pa rfl (.tmp 73) rfl a1 rfl ?_) | (with_reducible show wpList _ _ _ (⟨some 75, _, _, _, _, _⟩ :: _) _ _; refine wpList_build_ph rfl (.tmp 74) rfl ⟨noPk, 0, a1, false⟩ rfl ?_))
  intro gs w6 hgs0 hw60
  have hgs := hgs0.out
  have hw6 := hw60.out
  have HB56 : Hid (Below w5.heap.size w5 w6) := by rw [hw6]; exact (Below.refl _ _).alloc (Nat.le_refl _) _
  have HB36 : Hid (Below w3.heap.size w3 w6) := HB35.out.trans (HB56.out.mono HB35.out.size)
  have HSZS : Hid (V.heap.size ≤ w2.heap.size ∧ w2.heap.size ≤ Z1.heap.size ∧ Z1.heap.size ≤ w3.heap.size ∧ w3.heap.size ≤ w4.heap.size ∧ w4.heap.size ≤ w5.heap.size ∧ gs = w5.heap.size ∧ w6.heap.size = gs + 1) := ⟨HVW.out, HBZ1.out.size, HGR3.out.size, HB4.out.size, HB45.out.size, hgs, by rw [hw6, World.size_alloc, hgs]⟩
  have HMV : Hid (m < V.heap.size ∧ b < V.heap.size) := ⟨HSV.out.lt.2, HSV.out.lt.1⟩
  have HK26 : Hid (∀ i, V.heap.size ≤ i → i < w2.heap.size → w6.heap[i]? = w2.heap[i]?) := fun i h1 h2 => by
    obtain ⟨s1, s2, s3, s4, s5, s6, s7⟩ := HSZS.out
    have hm := HMV.out.1
    rw [HB36.out.block i (by omega), HGR3.out.block i (by omega) (by omega), HBZ1.out.block i h2]
  have HSPS : Hid (SpS w6 w6 V.heap.size w2.heap.size gs (gs + 1) (some ⟨gs, 0, none⟩) [(⟨noPk, 0, a1, false⟩ : Td)] 0) := by
    have ho : OwnM w6 gs 64 29 (.slice (some ⟨gs, 0, none⟩) 1 1) 1 (flatPh [(⟨noPk, 0, a1, false⟩ : Td)]) := by rw [hw6, hgs]; exact own_one w5 w5.heap.size _ (Nat.le_refl _)
    obtain ⟨s1, s2, s3, s4, s5, s6, s7⟩ := HSZS.out
    refine ⟨GrownX.refl _ _, by omega, by omega, fun t ht => ?_, Spot.of_own ho (by omega), rows_own (L := [(⟨noPk, 0, a1, false⟩ : Td)]) ho⟩
    rw [List.mem_singleton] at ht
    subst ht
    exact (SpT.of_own HAO2.out).grow HK26.out
  have HSPO : Hid (Calls Tryz.prog 10 #[.slice (some ⟨gs, 0, none⟩) 1 1] w6 fun e w' => e = .returned (.tuple #[]) ∧ GrownX (fun i => (V.heap.size ≤ i ∧ i < w2.heap.size) ∨ (gs ≤ i ∧ i < gs + 1)) w6 w') :=
    spoil22_gen (L := [(⟨noPk, 0, a1, false⟩ : Td)]) HSPS.out (fun t ht => by
      rw [List.mem_singleton] at ht
      subst ht
      exact (AtO.below HA3.out HB36.out).ok) (Nat.le_refl _) (by decide) (by simp)
  have HG6 : Hid (CellsAt w6 g2 (ribAr most A' n2 c') 27) := HG5.out.below HB56.out HG5.out.lt
  have HGL : Hid (g2 < w5.heap.size) := HG5.out.lt
  clear hgs hw6 hgs0 hw60 HSPS HC5 HG5
  go_wp2_with fail
  refine HSPO.out.mono ?_
  rintro e Z ⟨rfl, hgz⟩
  have HGZ : Hid (GrownX (fun i => (V.heap.size ≤ i ∧ i < w2.heap.size) ∨ (gs ≤ i ∧ i < gs + 1)) w6 Z) := hgz
  clear hgz HSPO
  go_upto_region 8 with fail
  obtain ⟨s1, s2, s3, s4, s5, s6, s7⟩ := HSZS.out
  have hgg2 := HGE2.out
  have hgl := HGL.out
  have hmv := HMV.out
  have hsv : s + 2 < V.heap.size := HQ0.out.lt
  have HGZ2 : Hid (CellsAt Z g2 (ribAr most A' n2 c') 27) := HG6.out.grownX HGZ.out (by omega)
  have HQZ : Hid (CellsAt Z (s + 2) (ribAr 0 none 0 0) 27) := (HQ3.out.below HB36.out HQ3.out.lt).grownX HGZ.out (by omega)
  have HVZX : Hid (GrownX (fun i => i = m ∨ V.heap.size ≤ i) V Z) := (((GrownX.of_below HV1.out).trans (HGR3.out.mono' (fun i hi => .inl hi))).trans (GrownX.of_below HB36.out)).trans (HGZ.out.mono' (fun i hi => .inr (by omega)))
  have HRZ : Hid (RibM Z base b m most M2) := by
    have h6 := HR3.out.below HB36.out
    refine ⟨S', { h6 with blk := h6.blk.grownX HGZ.out (by omega), map := h6.map.grownX HGZ.out (by omega), own := fun p hp => ?_ }, HM3.out⟩
    rcases HFR.out p hp with h | h
    · refine AtO.keepX (HSV.out.own p h) HVZX.out (fun i hi cs T fr e => ?_)
      rcases hi with hi | hi
      · rw [hi] at e
        exact HSV.out.mapBlk cs T fr e
      · have := (Array.getElem?_eq_some_iff.1 e).1
        omega
    · refine (AtO.keep h (fun i h1 h2 => ?_)).lower' (by have h1 := HSV.out.low.1; omega)
      rw [HGZ.out.block i (by omega) (by omega), HB36.out.block i h2]
  have HKZ : Hid (∀ i, w3.heap.size ≤ i → i < w4.heap.size → Z.heap[i]? = w4.heap[i]?) := fun i h1 h2 => by
    rw [HGZ.out.block i (by omega) (by omega), HB56.out.block i (by omega), HB45.out.block i h2]
  have HBX : Hid (∀ W, GrownX (fun i => i = m ∨ i = s + 2) Z W → CellsAt W g2 (ribAr most A' n2 c') 27) := fun W hW => HGZ2.out.grownX hW (by omega)
  refine wp_region_held_drew (S := fun w' => GrownX (fun i => i = m ∨ i = s + 2) Z w') (by kernel_rfl) ((GrownX.refl _ _).drew 1) (fun hHeld => ?_)
  refine wpAnyH_take (i := 0) (oi := { dst := some 77, op := Op.move (Operand.tmp 0), type := 23, pos := "law.go:49", after := #[], guard := none }) (v := ?_) rfl (by kernel_rfl) (by kernel_rfl) (by kernel_rfl) (fun _ _ _ h => h) (Or.inl ⟨by rfl, ?_⟩) hHeld ?_
  rotate_left
  · intro w hSw
    clear hSw
    go_simp
    try with_reducible rfl
  try simp only [Act.put, List.setIfInBounds_toArray, List.set_cons_zero, List.set_cons_succ]
  refine wpAnyH_take (i := 1) (oi := { dst := some 78, op := Op.load 27 (Operand.tmp 12), type := 27, pos := "law.go:49", after := #[{ on := 3, ground := Ground.gcOnly Departure.lateStores }], guard := none }) (v := Value.agg (ribAr most A' n2 c')) rfl (by kernel_rfl) (by kernel_rfl) (by kernel_rfl) (fun _ _ _ h => h) (yields_rib (by rfl) (.tmp 12) rfl g2 (by rfl) most A' n2 c' (fun w hSw => HBX.out w hSw)) hHeld ?_
  try simp only [Act.put, List.setIfInBounds_toArray, List.set_cons_zero, List.set_cons_succ]
  refine wpAnyH_take (i := 2) (oi := { dst := some 79, op := Op.move (Operand.tmp 15), type := 4, pos := "law.go:49", after := #[{ on := 4, ground := Ground.gcOnly Departure.lateStores }], guard := none }) (v := ?_) rfl (by kernel_rfl) (by kernel_rfl) (by kernel_rfl) (fun _ _ _ h => h) (Or.inl ⟨by rfl, ?_⟩) hHeld ?_
  rotate_left
  · intro w hSw
    clear hSw
    go_simp
    try with_reducible rfl
  try simp only [Act.put, List.setIfInBounds_toArray, List.set_cons_zero, List.set_cons_succ]
  refine wpAnyH_take (i := 3) (oi := { dst := some 6, op := Op.assign (Operand.tmp 77), type := 23, pos := "law.go:49", after := #[{ on := 0, ground := Ground.data }, { on := 0, ground := Ground.phase }, { on := 1, ground := Ground.textOnly Departure.lateStores }, { on := 2, ground := Ground.textOnly Departure.lateStores }], guard := none }) (v := ?_) rfl (by kernel_rfl) (by kernel_rfl) (by kernel_rfl) (fun _ _ _ h => h) (Or.inl ⟨by rfl, ?_⟩) hHeld ?_
  rotate_left
  · intro w hSw
    clear hSw
    go_simp
    try with_reducible rfl
  try simp only [Act.put, List.setIfInBounds_toArray, List.set_cons_zero, List.set_cons_succ]
  refine wpAnyH_ready (rs := [4]) (by kernel_rfl) (by simp) ?_
  refine AllReadyH.cons (o := { dst := none, op := Op.store 27 (Operand.tmp 7) (Operand.tmp 78), type := 0, pos := "law.go:49", after := #[{ on := 1, ground := Ground.data }, { on := 3, ground := Ground.chain }, { on := 0, ground := Ground.phase }, { on := 1, ground := Ground.phase }, { on := 2, ground := Ground.textOnly Departure.lateStores }, { on := 3, ground := Ground.phase }], guard := none }) rfl (fun K hK => ?_) AllReadyH.nil
  refine wp_store_row 27 (.tmp 7) (.tmp 78) rfl (s + 2) (ribAr most A' n2 c') rfl rfl 27 _ (HQZ.out.drew 1) (by rw [rib_size]; rfl) rfl (rib_ones _ _ _ _) ?_
  refine hK.out _ _ (hHeld.trans (GrownX.of_row (X := fun i => i = m ∨ i = s + 2) (grown_setRow' _ _ _) (.inr rfl))) (fun hHeld => ?_)
  clear hK K
  try simp only [Act.put, List.setIfInBounds_toArray, List.set_cons_zero, List.set_cons_succ]
  refine wpAnyH_take (i := 5) (oi := { dst := some 8, op := Op.assign (Operand.tmp 79), type := 4, pos := "law.go:49", after := #[{ on := 2, ground := Ground.data }, { on := 4, ground := Ground.chain }, { on := 0, ground := Ground.phase }, { on := 1, ground := Ground.phase }, { on := 2, ground := Ground.phase }, { on := 3, ground := Ground.phase }, { on := 4, ground := Ground.phase }], guard := none }) (v := ?_) rfl (by kernel_rfl) (by kernel_rfl) (by kernel_rfl) (fun _ _ _ h => h) (Or.inl ⟨by rfl, ?_⟩) hHeld ?_
  rotate_left
  · intro w hSw
    clear hSw
    go_simp
    try with_reducible rfl
  try simp only [Act.put, List.setIfInBounds_toArray, List.set_cons_zero, List.set_cons_succ]
  refine wpAnyH_done (by kernel_rfl) ?_ _
  have HF : Hid (CellsAt (Z.drew.setRow (s + 2) (ribAr most A' n2 c')) (s + 2) (ribAr most A' n2 c') 27) := (show CellsAt Z.drew (s + 2) _ 27 from HQZ.out.drew 1).setRow' _
  have hgr := grown_setRow' Z.drew (s + 2) (ribAr most A' n2 c')
  have HRF : Hid (RibM (Z.drew.setRow (s + 2) (ribAr most A' n2 c')) base b m most M2) := HRZ.out.drew_.offT hgr (HQZ.out.drew 1) (by omega) (by omega)
  have HGF : Hid (GrownX (fun i => i = m) w (Z.drew.setRow (s + 2) (ribAr most A' n2 c'))) := (((GrownX.of_below HB.out).mix HVZX.out (fun i hi => by
    rcases hi with hi | hi
    · exact .inl hi
    · exact .inr (Nat.le_trans HB.out.size hi))).drew 1).new_ (GrownX.of_row (X := fun i => i = s + 2) hgr rfl) (fun i hi => by rw [hi]; have := HS.out; omega)
  have HPNF : Hid (PhL (Z.drew.setRow (s + 2) (ribAr most A' n2 c')) A' c' L2) ∧ Hid (NewL w (Z.drew.setRow (s + 2) (ribAr most A' n2 c')) A c L A' c' L2) := ph_mono HNEW.out (HPH.out.keepX HGF.out (fun i hi => by rw [hi]; exact HRIB.out.mapBlk)) (by have := HB.out.size; omega) (fun i h1 h2 => by
    rw [hgr.block i (by show i < Z.heap.size; have := HGZ.out.size; omega) (fun e => by injection e with e; omega)]
    exact HKZ.out i h1 h2)
  obtain ⟨HPF, HNF⟩ := HPNF
  clear hHeld
  go_wp2_with fail
  exact bodyPost_ret (results_step rfl _ _ (s + 2) most A' n2 c' (.pointer (some ⟨b, 0, none⟩)) (.bool true) rfl rfl rfl HF.out) rfl ⟨b, m, _, A', c', L2, by rw [HNN.out], ⟨⟨base, HRF.out⟩, HPF.out, HRL.out⟩, HML.out, .inl rfl, HGF.out, HNF.out⟩
end Go.Proofs.YtldpcliahfiloaaGreat
