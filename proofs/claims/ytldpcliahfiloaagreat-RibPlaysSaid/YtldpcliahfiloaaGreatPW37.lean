/-
  Several texts in one.
-/
import Derived.Test.YtldpcliahfiloaaGreatPW36
set_option linter.unusedVariables false
set_option linter.unusedSimpArgs false
namespace Go.Proofs.YtldpcliahfiloaaGreat
open Go.RowKit Go.MapKept Go.Shelf
open Go.Lib hiding intOf
open Go.Sort hiding Below
open Go.Maps (Keyed)

theorem RangeAt.nocells {P : Program} {K : TypeId} {w : World} {b r : Nat} {L left : List (Value × Value)} (h : RangeAt P K w b r L left) {cs : Array Value} {T : TypeId} {fr : Nat × Nat} : w.heap[r]? ≠ some (.cells cs T fr) := by
  obtain ⟨es, clock, since, seen, c0, hb, _, _, _, hr, _⟩ := h
  rw [hr]
  intro e
  cases e
theorem RibAt.keepX {w w' : World} {base b m : Nat} {most : Int} {S : List Td} {X : Nat → Prop} (h : RibAt w base b m most S) (hg : GrownX X w w') (hb : ¬ X b) (hm : ¬ X m) (hX : ∀ i, X i → ∀ cs T fr, w.heap[i]? ≠ some (.cells cs T fr)) : RibAt w' base b m most S :=
  RibAt.keepT h hg hb hm (fun i hi cs fr => ⟨hX i hi _ _ _, hX i hi _ _ _, hX i hi _ _ _, hX i hi _ _ _⟩)
def putVs (cs : Array Value) : Nat → List Value → Array Value
  | _, [] => cs
  | o, v :: r => putVs (cs.setIfInBounds o v) (o + 1) r
theorem CellsAt.setCells {b : Nat} {T : TypeId} : ∀ (vs : List Value) (o : Nat) (w : World) (cs : Array Value), CellsAt w b cs T → CellsAt (w.setCells b o vs) b (putVs cs o vs) T
  | [], _, _, _, h => h
  | v :: r, o, w, cs, h => CellsAt.setCells r (o + 1) _ _ (h.setAt o v)
theorem told_attrs (p : Td) (a : Atr) : putVs p.ar 1 a.ar.toList = (Td.mk p.k p.label a p.stale).ar := by
  simp only [Td.ar, Atr.ar, putVs, List.setIfInBounds_toArray, List.set_cons_succ, List.set_cons_zero]
theorem told_mid {w : World} {b : Nat} {p : Td} (h : CellsAt w b p.ar 86) : w.rangeAt b 1 p.a.ar.toList := fun j v hv => by
  rw [h.c]
  have e : p.ar.toList = [.int .u32 (p.label : Nat)] ++ (p.a.ar.toList ++ [.bool p.stale]) := rfl
  rw [← Array.getElem?_toList, e, List.getElem?_append_right (by simp)]
  simp only [List.length_cons, List.length_nil, Nat.zero_add, Nat.add_sub_cancel_left]
  rw [List.getElem?_append_left (List.getElem?_eq_some_iff.1 hv).1]
  exact hv
theorem told_there {w : World} {b : Nat} {p : Td} (h : CellsAt w b p.ar 86) (a : Atr) : w.there b 1 a.ar.size := fun j hj => by
  have hs : p.ar.size = 18 := rfl
  have ha : a.ar.size = 16 := rfl
  refine ⟨?_, h.unfrozen _⟩
  rw [h.c, Array.getElem?_eq_getElem (by omega)]
  rfl
theorem rb_load_told_attrs {ops : Array Oper} {rest : List Oper} {op : Oper} {a : Act} {w : World} {Q : Exit → Act → World → Prop} (hgd : op.guard = none) (src : Operand) (ho : op.op = .load 41 src) (b : Nat) (hx : a.eval src = .pointer (some ⟨b, 1, none⟩)) (p : Td) (hc : CellsAt w b p.ar 86)
    (h : wpList Tryz.prog ops Q rest (a.put op.dst (.agg p.a.ar)) w) : wpList Tryz.prog ops Q (op :: rest) a w := by
  obtain ⟨fs, hu⟩ := attrs_under
  exact wpList_load_mid hgd 41 src ho b 1 hx p.a.ar.toList _ (told_mid hc) hu rfl (by rw [attrs_size]; rfl) h
theorem rb_store_told_attrs {ops : Array Oper} {rest : List Oper} {op : Oper} {a : Act} {w : World} {Q : Exit → Act → World → Prop} (hgd : op.guard = none) (x y : Operand) (ho : op.op = .store 41 x y) (b : Nat) (hx : a.eval x = .pointer (some ⟨b, 1, none⟩)) (a2 : Atr) (hy : a.eval y = .agg a2.ar) (p : Td) (hc : CellsAt w b p.ar 86)
    (h : wpList Tryz.prog ops Q rest (a.put op.dst undef) (w.setCells b 1 a2.ar.toList)) : wpList Tryz.prog ops Q (op :: rest) a w :=
  wpList_store_mid hgd 41 x y ho b 1 a2.ar hx hy (told_there hc a2) (by rw [attrs_size]; rfl) (attrs_ones a2) h
set_option maxRecDepth 100000 in
set_option maxHeartbeats 16000000 in
theorem rcopy_any (w : World) (base b m : Nat) (most : Int) (S : List Td) (h : RibAt w base b m most S) :
    Calls Tryz.prog 27 #[.pointer (some ⟨b, 0, none⟩)] w fun e w' => (∃ b2 m2 S2, e = .returned (.pointer (some ⟨b2, 0, none⟩)) ∧ RibAt w' w.heap.size b2 m2 most S2 ∧ (S2.map Td.c).Perm (S.map Td.c)) ∧ Below w.heap.size w w' := by
  obtain ⟨l0, l1⟩ := h.lt
  have hkeys := Lib.hid h.keys
  have HLEN := Lib.hid h.len
  have HS0 := Lib.hid h
  obtain ⟨c0, c1⟩ := h.blk.c2
  go_enter Tryz.func27, Tryz.ntmps27
  go_wp2_with fail
  refine (rnone_any b m most _ HS0.out.blk).mono ?_
  rintro e w1 ⟨rfl, hw⟩
  have hw := hw.symm
  subst hw
  clear h
  go_wp2_with fail
  refine (rnew_any most w).mono ?_
  rintro e w2 ⟨rfl, hr2, hb2⟩
  obtain ⟨b2, hbb⟩ : ∃ x, x = w.heap.size + 1 := ⟨_, rfl⟩
  obtain ⟨m2, hmm⟩ : ∃ x, x = w.heap.size := ⟨_, rfl⟩
  have HRN : Hid (RibAt w2 w.heap.size b2 m2 most []) := by rw [hbb, hmm]; exact hr2
  have HM2 : Hid (w.heap.size ≤ m2) := by show _ ≤ _; omega
  have HBM : Hid (b2 ≠ m2) := by show _ ≠ _; omega
  have HRS := Lib.hid (HS0.out.below hb2)
  have HB2 := Lib.hid hb2
  rw [← hbb]
  have hm2w : m2 < w2.heap.size := HRN.out.lt.2
  clear hbb hmm hr2 hb2 HS0 c0 c1
  obtain ⟨c0, c1⟩ := HRS.out.blk.c2
  obtain ⟨w3, hr, hra, hb3, hz⟩ := HRS.out.map.range (t := 51) Tryz.underlying51
  obtain ⟨rr, hrr⟩ : ∃ x, x = w2.heap.size := ⟨_, rfl⟩
  have HR3 : Hid (RangeAt Tryz.prog 83 w3 m rr (tdL S) (tdL S)) := by rw [hrr]; exact hra
  have HRN3 := Lib.hid (HRN.out.below hb3)
  have HRS3 := Lib.hid (HRS.out.below hb3)
  have HB3 : Hid (Below w.heap.size w w3) := HB2.out.trans (hb3.mono HB2.out.size)
  have HRM : Hid (m2 ≠ rr ∧ m2 ≠ m) := ⟨by omega, by have := HM2.out; omega⟩
  have HRW : Hid (w.heap.size ≤ rr) := by rw [hrr]; exact HB2.out.size
  go_wp2_with fail
  rw [← hrr]
  clear hr hra hb3 hz c0 c1 hrr hm2w HRN HRS HB2
  go_loopw [4] (fun u4 wr => ∃ (D SL S2 : List Td), Hid (RangeAt Tryz.prog 83 wr m rr (tdL S) (tdL SL)) ∧ Hid ((D ++ SL).Perm S) ∧ Hid (RibAt wr w.heap.size b2 m2 most S2) ∧ Hid (S2.map Td.c = D.map Td.c) ∧ Hid (RibAt wr base b m most S) ∧ Hid (Below w.heap.size w wr)) (fun _ wr => wr.rangeLeft m rr)
  case atStart => exact ⟨[], S, [], HR3.out, List.Perm.refl _, HRN3.out, rfl, HRS3.out, HB3.out⟩
  case round =>
    obtain ⟨D, SL, S2, HR, HP, HN, HD, HS, HB⟩ := hrel
    clear HR3 HRN3 HRS3 HB3
    have hrz := HR.out.lt.2
    have hrw := HRW.out
    rcases HR.out.next (by omega) 0 with ⟨hnil, hrun⟩ | ⟨i, key, v, wq, hi, hrun, hrg, hgr, hzq, hent⟩
    · have hsl : SL = [] := by unfold tdL at hnil; exact List.map_eq_nil_iff.1 hnil
      subst hsl
      have HPM : Hid ((S2.map Td.c).Perm (S.map Td.c)) := by
        show List.Perm _ _
        rw [HD.out]
        have h := HP.out
        rw [List.append_nil] at h
        exact h.map _
      go_wp2_with fail
      go_ret
      exact ⟨⟨b2, m2, S2, rfl, HN.out, HPM.out⟩, HB.out⟩
    · obtain ⟨p, hi2, rfl, rfl⟩ := tdL_back hi
      have hpe := perm_eraseIdx SL i _ hi2
      have HMID : Hid (((D ++ [p]) ++ SL.eraseIdx i).Perm S) := by
        show List.Perm _ _
        rw [List.append_assoc]
        exact (List.Perm.append_left D hpe).trans HP.out
      rw [tdL_erase] at hrg
      have hmeas : Hid ((SL.eraseIdx i).length < SL.length) := by
        show _ < _
        obtain ⟨hil, _⟩ := List.getElem?_eq_some_iff.1 hi2
        rw [List.length_eraseIdx_of_lt hil]
        omega
      have hml : Hid (wr.rangeLeft m rr = SL.length) := by
        show _ = _
        rw [HR.out.left_eq]
        simp [tdL]
      have HPS : Hid (p ∈ S) := HMID.out.mem_iff.1 (by simp)
      have HNEW : Hid (∀ t ∈ S2, t.k ≠ p.k) := fun t ht he => by
        have h1 : t.c ∈ D.map Td.c := by rw [← HD.out]; exact List.mem_map.2 ⟨t, ht, rfl⟩
        obtain ⟨s, hs, hse⟩ := List.mem_map.1 h1
        have h2 : ((D ++ [p]) ++ SL.eraseIdx i).Pairwise (fun p q => p.k ≠ q.k) := (HMID.out.pairwise_iff (fun a => fun e => a e.symm)).2 hkeys.out
        have h3 := (List.pairwise_append.1 (List.pairwise_append.1 h2).1).2.2 s hs p (by simp)
        have h4 : s.k = t.k := congrArg TdC.k hse
        exact h3 (h4.trans he)
      have HL2 : Hid (S2.length + 1 ≤ 1000) := by
        show _ ≤ _
        have h1 : S2.length = D.length := by
          have := congrArg List.length HD.out
          simpa using this
        have h2 := HMID.out.length_eq
        have h3 := HLEN.out
        simp only [List.length_append, List.length_cons, List.length_nil] at h2
        omega
      have hbq : Below w.heap.size w wq := HB.out.grown hgr HB.out.size (fun q hq => by cases hq; exact HRW.out)
      have HBq : Hid (Below w.heap.size w wq) := hbq
      have hq0 : GrownX (fun i => i = rr) wr wq := GrownX.of_row hgr rfl
      have hodd : ∀ i, i = rr → Odd wr i := fun i hi cs fr => by
        subst hi
        refine ⟨?_, ?_, ?_, ?_⟩ <;> exact HR.out.nocells
      have HNq : Hid (RibAt wq w.heap.size b2 m2 most S2) := RibAt.keepT HN.out hq0 (fun e => HR.out.nocells (e ▸ HN.out.blk)) (fun e => HRM.out.1 e) hodd
      have HSq : Hid (RibAt wq base b m most S) := RibAt.keepT HS.out hq0 (fun e => HR.out.nocells (e ▸ HS.out.blk)) (fun e => by have := HRW.out; omega) hodd
      have HRq := Lib.hid hrg
      have HN9 : Hid (∀ a c, CellsAt ((wq.alloc (.cells a 83)).alloc (.cells c 86)) (wr.heap.size + 1) c 86) := fun a c => by
        have h := CellsAt.new (wq.alloc (.cells a 83)) c 86
        rw [World.size_alloc, hzq] at h
        exact h
      have HZQ := Lib.hid hzq
      clear hi hi2 hpe hrg hgr HB HP HN HS hbq hq0 hodd HR
      unfold Pk.v at hrun hent
      go_upto_region 7 with (with_reducible show wpList _ _ _ (_ :: _) _ _; refine rb_store_told rfl (.tmp 5) (.tmp 22) rfl (wr.heap.size + 1) rfl p rfl (Td.mk noPk 0 noAtr false) (HN9.out _ _) ?_)
      refine rb_name fun V hV => ?_
      have HBW : Hid (Below wq.heap.size wq V) := by
        rw [hV]
        have h1 : Below wq.heap.size wq ((wq.alloc (.cells #[.int .i64 p.k.fam, .int .u64 p.k.rd, .string p.k.addr, .int .i64 p.k.len, .int .u32 (p.k.id : Nat)] 83)).alloc (.cells (Td.mk noPk 0 noAtr false).ar 86)) := ((Below.refl _ _).alloc (Nat.le_refl _) _).alloc (by simp) _
        exact h1.grown (grown_setRow' _ _ _) h1.size (fun q hq => by cases hq; have := HZQ.out; omega)
      have HTV : Hid (CellsAt V (wr.heap.size + 1) p.ar 86) := by rw [hV]; exact (HN9.out _ _).setRow' _
      have HKV : Hid (CellsAt V wr.heap.size #[.int .i64 p.k.fam, .int .u64 p.k.rd, .string p.k.addr, .int .i64 p.k.len, .int .u32 (p.k.id : Nat)] 83) := by
        rw [hV, ← HZQ.out]
        exact ((CellsAt.new _ _ _).alloc _).row (grown_setRow' _ _ _) (by omega)
      clear hV HN9 hrun hent
      have HBV : Hid (Below w.heap.size w V) := HBq.out.trans (HBW.out.mono HBq.out.size)
      have HRV : Hid (RangeAt Tryz.prog 83 V m rr (tdL S) (tdL (SL.eraseIdx i))) := HRq.out.grownX (X := fun _ => False) (GrownX.of_below HBW.out) (fun h => h) (fun h => h)
      have HNV := Lib.hid (HNq.out.below HBW.out)
      have HSV := Lib.hid (HSq.out.below HBW.out)
      obtain ⟨gq, hgq⟩ : ∃ gq, gq = wr.heap.size := ⟨_, rfl⟩
      have HGM : Hid (gq ≠ m2) := by
        show _ ≠ _
        have h1 := HNq.out.lt.2
        have h2 := HZQ.out
        omega
      have HTM : Hid (gq + 1 ≠ m2) := by
        show _ ≠ _
        have h1 := HNq.out.lt.2
        have h2 := HZQ.out
        omega
      have HGW : Hid (w.heap.size ≤ gq + 1) := by
        show _ ≤ _
        have h1 := HBq.out.size
        have h2 := HZQ.out
        omega
      have HGB : Hid (gq + 1 ≠ b2 ∧ gq + 1 ≠ b ∧ gq + 1 ≠ m ∧ gq + 1 ≠ rr) := by
        have h1 := HNq.out.lt.1
        have h2 := HZQ.out
        have h3 := HRq.out.lt.2
        obtain ⟨h4, h5⟩ := HSq.out.lt
        refine ⟨?_, ?_, ?_, ?_⟩ <;> omega
      rw [← hgq] at HTV HKV ⊢
      clear hgq HBq HRq HBW HZQ HNq HSq hrz
      have HAO := Lib.hid (HSV.out.own p HPS.out)
      have HSZ := Lib.hid (HSV.out.sz p HPS.out)
      go_wp2_with (with_reducible show wpList _ _ _ (_ :: _) _ _; refine rb_load_told_attrs rfl (.tmp 23) rfl (gq + 1) rfl p HTV.out ?_)
      refine (copy_any p.a _ HAO.out.ok HSZ.out).mono ?_
      rintro e Y ⟨⟨a2, rfl, ho2, hc2⟩, hb⟩
      have HTY : Hid (CellsAt Y (gq + 1) p.ar 86) := HTV.out.below hb HTV.out.lt
      have HKY : Hid (CellsAt Y gq #[.int .i64 p.k.fam, .int .u64 p.k.rd, .string p.k.addr, .int .i64 p.k.len, .int .u32 (p.k.id : Nat)] 83) := HKV.out.below hb HKV.out.lt
      have HRY := Lib.hid (HRV.out.grownX (X := fun _ => False) (GrownX.of_below hb) (fun h => h) (fun h => h))
      have HNY := Lib.hid (HNV.out.below hb)
      have HSY := Lib.hid (HSV.out.below hb)
      have HBY : Hid (Below w.heap.size w Y) := HBV.out.trans (hb.mono HBV.out.size)
      have HA2 : Hid (AtO Y w.heap.size a2) := AtO.lower' ho2 HBV.out.size
      have HC2 : Hid (a2.c = p.a.c) := hc2
      clear hb ho2 hc2 HTV HKV HRV HNV HSV HBV HAO
      go_upto_region 8 with (with_reducible show wpList _ _ _ (_ :: _) _ _; refine rb_store_told_attrs rfl (.tmp 26) (.tmp 25) rfl (gq + 1) rfl a2 rfl p HTY.out ?_)
      refine rb_name fun Z hZ => ?_
      have hgz : Y.grownBy Z (some (gq + 1)) := by rw [hZ]; exact grown_setCells _ _ _ _
      have hgx : GrownX (fun i => i = gq + 1) Y Z := GrownX.of_row hgz rfl
      have hodd : ∀ i, i = gq + 1 → Odd Y i := fun i hi cs fr => by
        have hc : Y.heap[i]? = some (.cells p.ar 86 (0, 0)) := by rw [hi]; exact HTY.out
        rw [hc]
        refine ⟨?_, ?_, ?_, ?_⟩ <;> (intro he; injection he with he; injection he with _ he _; exact absurd he (by decide))
      have HTZ : Hid (CellsAt Z (gq + 1) (Td.mk p.k p.label a2 p.stale).ar 86) := by
        rw [hZ, ← told_attrs]
        exact CellsAt.setCells _ _ _ _ HTY.out
      have HKZ : Hid (CellsAt Z gq #[.int .i64 p.k.fam, .int .u64 p.k.rd, .string p.k.addr, .int .i64 p.k.len, .int .u32 (p.k.id : Nat)] 83) := HKY.out.row hgz (by omega)
      have HRZ : Hid (RangeAt Tryz.prog 83 Z m rr (tdL S) (tdL (SL.eraseIdx i))) := HRY.out.grownX hgx (fun e => HGB.out.2.2.1 e.symm) (fun e => HGB.out.2.2.2 e.symm)
      have HNZ : Hid (RibAt Z w.heap.size b2 m2 most S2) := RibAt.keepT HNY.out hgx (fun e => HGB.out.1 e.symm) (fun e => HTM.out e.symm) hodd
      have HSZ2 : Hid (RibAt Z base b m most S) := RibAt.keepT HSY.out hgx (fun e => HGB.out.2.1 e.symm) (fun e => HGB.out.2.2.1 e.symm) hodd
      have HAZ : Hid (AtO Z w.heap.size a2) := AtO.keepT HA2.out hgx hodd
      have HBZ : Hid (Below w.heap.size w Z) := hgx.below HBY.out (fun i hi => by rw [hi]; exact HGW.out) HBY.out.size
      clear hZ hgz hgx hodd HTY HKY HRY HNY HSY HBY HA2
      have HQ : Hid ((Td.mk p.k p.label a2 p.stale).k = p.k ∧ (Td.mk p.k p.label a2 p.stale).label = p.label ∧ (Td.mk p.k p.label a2 p.stale).a = a2 ∧ (Td.mk p.k p.label a2 p.stale).c = p.c) := ⟨rfl, rfl, rfl, by
        show TdC.mk p.k p.label a2.c p.stale = TdC.mk p.k p.label p.a.c p.stale
        rw [HC2.out]⟩
      generalize Td.mk p.k p.label a2 p.stale = q at HTZ HQ
      obtain ⟨kl, hkl⟩ := pk_key p.k (HSZ2.out.ok p HPS.out).1
      have HKL := Lib.hid hkl
      have hmZ : MapAt Tryz.prog 83 Z.drew m2 (tdL S2) := HNZ.out.map.drew 1
      obtain ⟨W1, e1, g1, M1, z1⟩ := hmZ.update_new (t := 51) pkLaw Tryz.underlying51 HKL.out (tdL_no HNEW.out) q.v
      have M2 : Hid (MapAt Tryz.prog 83 W1 m2 (tdL (S2 ++ [q]))) := by
        show MapAt _ _ _ _ _
        rw [← tdL_snoc, HQ.out.1]
        exact M1
      unfold Pk.v Td.v at e1
      have HI8 : Hid ((fun w' => CellsAt w' b2 #[.int .i64 most, .map (some m2)] 53 ∧ (∃ L, MapAt Tryz.prog 83 w' m2 L) ∧ CellsAt w' gq #[.int .i64 p.k.fam, .int .u64 p.k.rd, .string p.k.addr, .int .i64 p.k.len, .int .u32 (p.k.id : Nat)] 83 ∧ CellsAt w' (gq + 1) q.ar 86) Z.drew) := ⟨HNZ.out.blk.drew 1, ⟨_, hmZ⟩, HKZ.out.drew 1, HTZ.out.drew 1⟩
      obtain ⟨c0, c1⟩ := HNZ.out.blk.c2
      refine wp_region_held_drew (S := fun w' => CellsAt w' b2 #[.int .i64 most, .map (some m2)] 53 ∧ (∃ L, MapAt Tryz.prog 83 w' m2 L) ∧ CellsAt w' gq #[.int .i64 p.k.fam, .int .u64 p.k.rd, .string p.k.addr, .int .i64 p.k.len, .int .u32 (p.k.id : Nat)] 83 ∧ CellsAt w' (gq + 1) q.ar 86) (by kernel_rfl) (HI8.out) (fun hHeld => ?_)
      refine wpAnyH_take (i := 0) (oi := { dst := some 27, op := Op.move (Operand.tmp 3), type := 23, pos := "adjin.go:152", after := #[], guard := none }) (v := ?_) rfl (by kernel_rfl) (by kernel_rfl) (by kernel_rfl) (fun _ _ _ h => h) (Or.inl ⟨by rfl, ?_⟩) hHeld ?_
      rotate_left
      · intro w hSw
        clear hSw
        go_simp
        try with_reducible rfl
      try simp only [Act.put, List.setIfInBounds_toArray, List.set_cons_zero, List.set_cons_succ]
      refine wpAnyH_take (i := 1) (oi := { dst := some 28, op := Op.nilCheck (Operand.tmp 27), type := 0, pos := "adjin.go:152", after := #[{ on := 0, ground := Ground.data }], guard := none }) (v := ?_) rfl (by kernel_rfl) (by kernel_rfl) (by kernel_rfl) (fun _ _ _ h => h) (Or.inl ⟨by rfl, ?_⟩) hHeld ?_
      rotate_left
      · intro w hSw
        clear hSw
        go_simp
        try with_reducible rfl
      try simp only [Act.put, List.setIfInBounds_toArray, List.set_cons_zero, List.set_cons_succ]
      refine wpAnyH_take (i := 2) (oi := { dst := some 29, op := Op.fieldAddr 53 (Operand.tmp 28) 1, type := 0, pos := "adjin.go:152", after := #[{ on := 1, ground := Ground.data }], guard := none }) (v := ?_) rfl (by kernel_rfl) (by kernel_rfl) (by kernel_rfl) (fun _ _ _ h => h) (Or.inl ⟨by rfl, ?_⟩) hHeld ?_
      rotate_left
      · intro w hSw
        clear hSw
        go_simp
        try with_reducible rfl
      try simp only [Act.put, List.setIfInBounds_toArray, List.set_cons_zero, List.set_cons_succ]
      refine wpAnyH_take (i := 3) (oi := { dst := some 30, op := Op.load 51 (Operand.tmp 29), type := 51, pos := "adjin.go:152", after := #[{ on := 2, ground := Ground.data }], guard := none }) (v := ?_) rfl (by kernel_rfl) (by kernel_rfl) (by kernel_rfl) (fun _ _ _ h => h) (Or.inl ⟨by rfl, ?_⟩) hHeld ?_
      rotate_left
      · intro w hSw
        obtain ⟨q1, q2, q3, q4⟩ := hSw
        obtain ⟨c0, c1⟩ := q1.c2
        obtain ⟨k0, k1, k2, k3, k4⟩ := q3.c5
        go_simp
        try with_reducible rfl
      try simp only [Act.put, List.setIfInBounds_toArray, List.set_cons_zero, List.set_cons_succ]
      refine wpAnyH_take (i := 4) (oi := { dst := some 31, op := Op.load 83 (Operand.tmp 4), type := 83, pos := "adjin.go:152", after := #[], guard := none }) (v := ?_) rfl (by kernel_rfl) (by kernel_rfl) (by kernel_rfl) (fun _ _ _ h => h) (Or.inl ⟨by rfl, ?_⟩) hHeld ?_
      rotate_left
      · intro w hSw
        obtain ⟨q1, q2, q3, q4⟩ := hSw
        obtain ⟨c0, c1⟩ := q1.c2
        obtain ⟨k0, k1, k2, k3, k4⟩ := q3.c5
        go_simp
        try with_reducible rfl
      try simp only [Act.put, List.setIfInBounds_toArray, List.set_cons_zero, List.set_cons_succ]
      refine wpAnyH_take (i := 5) (oi := { dst := some 32, op := Op.load 86 (Operand.tmp 5), type := 86, pos := "adjin.go:152", after := #[], guard := none }) (v := Value.agg q.ar) rfl (by kernel_rfl) (by kernel_rfl) (by kernel_rfl) (fun _ _ _ h => h) (yields_told (by rfl) _ rfl (gq + 1) (by rfl) q (fun w h => h.2.2.2)) hHeld ?_
      try simp only [Act.put, List.setIfInBounds_toArray, List.set_cons_zero, List.set_cons_succ]
      refine wpAnyH_ready (rs := [6]) (by kernel_rfl) (by simp) ?_
      refine AllReadyH.cons (o := { dst := none, op := Op.mapUpdate 51 (Operand.tmp 30) (Operand.tmp 31) (Operand.tmp 32), type := 0, pos := "adjin.go:152", after := #[{ on := 3, ground := Ground.data }, { on := 4, ground := Ground.data }, { on := 5, ground := Ground.data }, { on := 0, ground := Ground.phase }, { on := 1, ground := Ground.phase }, { on := 2, ground := Ground.phase }, { on := 3, ground := Ground.phase }, { on := 4, ground := Ground.phase }, { on := 5, ground := Ground.phase }], guard := none }) rfl (fun K hK => ?_) AllReadyH.nil
      go_simp
      skip
      refine hK.out _ _ (And.intro (hHeld.1.row g1 HBM.out) (And.intro ⟨_, M1⟩ (And.intro (hHeld.2.2.1.row g1 HGM.out) (hHeld.2.2.2.row g1 HTM.out)))) (fun hHeld => ?_)
      clear hK K
      try simp only [Act.put, List.setIfInBounds_toArray, List.set_cons_zero, List.set_cons_succ]
      refine wpAnyH_done (by kernel_rfl) ?_ _
      have hX1 : ∀ i, i = m2 → ∀ cs T fr, Z.drew.heap[i]? ≠ some (.cells cs T fr) := fun i hi => by rw [hi]; exact (HNZ.out.drew 1).mapBlk
      have hgW := GrownX.of_row (X := fun i => i = m2) g1 rfl
      have HF : Hid (RibAt W1 w.heap.size b2 m2 most (S2 ++ [q])) := ⟨(HNZ.out.blk.drew 1).row g1 HBM.out, M2.out, HBM.out, fun t ht => by
          rcases List.mem_append.1 ht with ht | ht
          · exact HNZ.out.ok t ht
          · rw [List.mem_singleton] at ht
            rw [ht, HQ.out.1, HQ.out.2.1]
            exact HSZ2.out.ok p HPS.out, fun t ht => by
          rcases List.mem_append.1 ht with ht | ht
          · exact AtO.keepX ((HNZ.out.drew 1).own t ht) hgW hX1
          · rw [List.mem_singleton] at ht
            rw [ht, HQ.out.2.2.1]
            exact AtO.keepX (AtO.below HAZ.out (below_drewN (Below.refl _ _) 1)) hgW hX1, fun t ht => by
          rcases List.mem_append.1 ht with ht | ht
          · exact HNZ.out.sz t ht
          · rw [List.mem_singleton] at ht
            rw [ht, HQ.out.2.2.1, HC2.out]
            exact HSZ.out, by rw [List.length_append]; exact HL2.out, HNZ.out.low⟩
      have HSF : Hid (RibAt W1 base b m most S) := RibAt.keepX (HSZ2.out.drew 1) hgW (fun e => hX1 _ rfl _ _ _ (e ▸ (HSZ2.out.drew 1).blk)) (fun e => HRM.out.2 e.symm) hX1
      have HRF : Hid (RangeAt Tryz.prog 83 W1 m rr (tdL S) (tdL (SL.eraseIdx i))) := (HRZ.out.grownX (X := fun _ => False) (GrownX.of_below (below_drewN (Below.refl _ _) 1)) (fun h => h) (fun h => h)).grownX hgW (fun e => HRM.out.2 e.symm) (fun e => HRM.out.1 e.symm)
      have HBF : Hid (Below w.heap.size w W1) := hgW.below (below_drewN HBZ.out 1) (fun i hi => by rw [hi]; exact HM2.out) HBZ.out.size
      have HDF : Hid ((S2 ++ [q]).map Td.c = (D ++ [p]).map Td.c) := by
        show _ = _
        rw [List.map_append, List.map_append, HD.out]
        show _ ++ [q.c] = _ ++ [p.c]
        rw [HQ.out.2.2.2]
      clear hHeld hX1 hgW e1 M1 z1 g1 M2 HNZ HSZ2 HRZ HAZ HBZ HKZ HTZ HI8 c0 c1 hmZ
      go_wp2_with fail
      refine ⟨⟨D ++ [p], SL.eraseIdx i, S2 ++ [q], HRF.out, HMID.out, HF.out, HDF.out, HSF.out, HBF.out⟩, ?_⟩
      rw [hml.out, HRF.out.left_eq]
      simpa [tdL] using hmeas.out
theorem rcopyM_any {w : World} {base b m : Nat} {most : Int} {M : List TdC} (h : RibM w base b m most M) :
    Calls Tryz.prog 27 #[.pointer (some ⟨b, 0, none⟩)] w fun e w' => (∃ b2 m2 M2, e = .returned (.pointer (some ⟨b2, 0, none⟩)) ∧ RibM w' w.heap.size b2 m2 most M2 ∧ M2.Perm M) ∧ Below w.heap.size w w' := by
  obtain ⟨S, h, rfl⟩ := h
  refine (rcopy_any w base b m most S h).mono ?_
  rintro e w' ⟨⟨b2, m2, S2, h1, h2, h3⟩, h4⟩
  exact ⟨⟨b2, m2, _, h1, ⟨S2, h2, rfl⟩, h3⟩, h4⟩
end Go.Proofs.YtldpcliahfiloaaGreat
