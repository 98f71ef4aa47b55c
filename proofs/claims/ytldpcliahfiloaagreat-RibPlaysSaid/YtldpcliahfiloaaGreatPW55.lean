/-
  RibPlays: for all numbers and steps the law answers true. Conditions: none of its own.
-/
import Derived.Test.YtldpcliahfiloaaGreatPW54
set_option linter.unusedVariables false
set_option linter.unusedSimpArgs false
namespace Go.Proofs.YtldpcliahfiloaaGreat
open Go.RowKit Go.MapKept Go.Shelf
open Go.ChangeShapes Go.WideShapes Go.ChangeAt
open Go.ChangeMaps (open_string shut_string)
open Go.Lib hiding intOf
open Go.Sort hiding Below

theorem do_under : ∃ fs, Tryz.prog.underlying 43 = some (.struct fs) := ⟨_, Tryz.underlying43⟩
theorem do_size : (Tryz.prog.info? 43).map (·.size) = some 24 := by kernel_rfl
theorem yields_do {ops : Array Oper} {S : World → Prop} {o : Oper} {a : Act} (hw : Region.wanted o (yielded ops a.tmps) = true) (src : Operand) (ho : o.op = .load 43 src)
    (b off : Nat) (hx : a.eval src = .pointer (some ⟨b, off, none⟩)) (z : Int) (k : Pk) (label : Nat) (p : Atr) (fam : Int) (hS : ∀ w, S w → w.rangeAt b off (doAr z k label p fam).toList) : YieldsIf Tryz.prog ops S o (.agg (doAr z k label p fam)) a := by
  obtain ⟨fs, hu⟩ := do_under
  exact yieldsIf_load_mid hw 43 src ho b off hx (doAr z k label p fam).toList _ hS hu rfl (by rw [do_size]; rfl)
theorem RibM.apart {w : World} {base b m g : Nat} {most : Int} {M : List TdC} {cs : Array Value} (h : RibM w base b m most M) (hc : CellsAt w g cs 27) : b ≠ g ∧ m ≠ g := by
  obtain ⟨S, h1, _⟩ := h
  refine ⟨fun e => ?_, fun e => ?_⟩
  · subst e
    have e1 := h1.blk
    unfold CellsAt at e1 hc
    rw [e1] at hc
    injection hc with hc
    injection hc with _ hc
    exact absurd hc (by decide)
  · subst e
    exact h1.mapBlk _ _ _ hc
theorem all_same {M : List TdC} {L : List Td} {O : List Pk} {P : List Td} (h : Rel M (L.map Td.c)) (fam : Int) (ho : OrdP O) (hp : O.Perm ((M.filter fun t => decide (t.k.fam = fam) && true).map (·.k))) (hq : AllQ M O P) : P.map Td.c = (L.filter (famP fam)).map Td.c := by
  have e : (L.filter (famP fam)).map Td.c = (L.map Td.c).filter (fun t => decide (t.k.fam = fam) && true) := by
    rw [List.filter_map]
    congr 1
    exact List.filter_congr fun t _ => Bool.eq_iff_iff.2 (by simp [famP, Td.c] <;> exact decide_eq_true_iff.symm)
  rw [e]
  refine by_keys h _ (fun t ht => ?_) ?_
  · obtain ⟨x, hx, rfl⟩ := List.mem_map.1 ht
    exact hq.2 x hx
  · rw [← ord_keys h _ ho hp, ← hq.1, List.map_map]
    rfl
theorem PhsAt.ph {w : World} {base : Nat} {v : Value} {P : List Td} (h : PhsAt w base v P) (hok : ∀ t ∈ P, t.k.Ok ∧ t.label < 4294967296 ∧ AtrSz t.a.c) : ∃ A c, v = .slice A P.length c ∧ PhL w A c P := by
  obtain ⟨A, c, rfl⟩ := OwnM.form h.own
  exact ⟨A, c, rfl, (ph_of (show OwnL w base 64 29 paF (.slice A P.length c) P from h.own) (fun t ht => ⟨(hok t ht).1, (hok t ht).2.1, (h.at_ t ht).ok, (hok t ht).2.2⟩)).1⟩
theorem RibM.szs {w : World} {base b m : Nat} {most : Int} {M : List TdC} (h : RibM w base b m most M) : ∀ t ∈ M, t.k.Ok ∧ t.label < 4294967296 ∧ AtrSz t.c := by
  obtain ⟨S, h1, rfl⟩ := h
  intro t ht
  obtain ⟨p, hp, rfl⟩ := List.mem_map.1 ht
  exact ⟨(h1.ok p hp).1, (h1.ok p hp).2, h1.sz p hp⟩
/-- what All answers of both, compared: alike -/
def ASP (w : World) (b : Nat) (fam : Int) (L : List Td) (e : Ending) (w' : World) : Prop :=
  ∃ A c P, e = .returned (.slice A (List.length P) c) ∧ PhsAt w' w.heap.size (.slice A P.length c) P ∧ PhL w' A c P ∧ P.map Td.c = (L.filter (famP fam)).map Td.c
theorem allS_any {w : World} {b m : Nat} {most : Int} {M : List TdC} {A : Option Addr} {c : Nat} {L : List Td} (h : StP w b m most M A c L) (fam : Int) :
    Calls Tryz.prog 6 #[.pointer (some ⟨b, 0, none⟩), .int .i64 fam] w fun e w' => ASP w b fam L e w' ∧ Below w.heap.size w w' := by
  obtain ⟨⟨base, hr⟩, hp, hrel⟩ := h
  refine (rall_any hr fam).mono ?_
  rintro e w' ⟨⟨ov, P, O, rfl, hph, hord, hperm, hall⟩, hb⟩
  refine ⟨?_, hb⟩
  obtain ⟨A1, c1, rfl, hphl⟩ := hph.ph (fun t ht => by
    have h1 := hr.szs _ (hall.2 t ht)
    exact h1)
  exact ⟨A1, c1, P, rfl, hph, hphl, all_same hrel fam hord hperm hall⟩
theorem StP.below {w w' : World} {b m : Nat} {most : Int} {M : List TdC} {A : Option Addr} {c : Nat} {L : List Td} (h : StP w b m most M A c L) (hb : Below w.heap.size w w') : StP w' b m most M A c L :=
  ⟨by obtain ⟨base, hr⟩ := h.rib; exact ⟨base, hr.below hb⟩, h.ph.below hb, h.rel⟩
theorem DosOk.keepX {w w' : World} {A : Option Addr} {c : Nat} {D : List Dv} {X : Nat → Prop} (h : DosOk w A c D) (hg : GrownX X w w') (hX : ∀ i, X i → ∀ cs T fr, w.heap[i]? ≠ some (.cells cs T fr)) : DosOk w' A c D :=
  ⟨h.rd.keepX hg hX, h.len, h.cap, fun d hd => { h.ok d hd with a := (h.ok d hd).a.keepX hg hX }⟩
theorem StP.mapOk {w : World} {b m : Nat} {most : Int} {M : List TdC} {A : Option Addr} {c : Nat} {L : List Td} (h : StP w b m most M A c L) : m < w.heap.size ∧ (∀ cs T fr, w.heap[m]? ≠ some (.cells cs T fr)) := by
  obtain ⟨base, hr⟩ := h.rib
  exact ⟨hr.lt.2.1, hr.mapBlk⟩
/-- the answer kept in a cell allocated behind the call -/
theorem stepA_any {Z V w9 : World} {m b2 m2 : Nat} {most : Int} {M2 : List TdC} {A A2 : Option Addr} {c c2 : Nat} {L L2 : List Td} (h2 : StP w9 b2 m2 most M2 A2 c2 L2) (hg : GrownX (fun i => i = m) Z w9) (hs : Z.heap.size ≤ V.heap.size) (hn : NewL V w9 A c L A2 c2 L2) (cs : Array Value) :
    StP ((w9.alloc (.cells cs 27)).setRow w9.heap.size (ribAr most A2 L2.length c2)) b2 m2 most M2 A2 c2 L2 ∧ CellsAt ((w9.alloc (.cells cs 27)).setRow w9.heap.size (ribAr most A2 L2.length c2)) w9.heap.size (ribAr most A2 L2.length c2) 27 ∧ GrownX (fun i => i = m) Z ((w9.alloc (.cells cs 27)).setRow w9.heap.size (ribAr most A2 L2.length c2)) ∧ (∀ W, PhL W A c L → (∀ i, Z.heap.size ≤ i → i < ((w9.alloc (.cells cs 27)).setRow w9.heap.size (ribAr most A2 L2.length c2)).heap.size → W.heap[i]? = ((w9.alloc (.cells cs 27)).setRow w9.heap.size (ribAr most A2 L2.length c2)).heap[i]?) → PhL W A2 c2 L2) := by
  have hb9 : Below w9.heap.size w9 ((w9.alloc (.cells cs 27)).setRow w9.heap.size (ribAr most A2 L2.length c2)) := ((Below.refl _ _).alloc (Nat.le_refl _) _).grown (grown_setRow' _ _ _) (by simp) (fun q hq => by cases hq; exact Nat.le_refl _)
  exact ⟨h2.below hb9, (show CellsAt (w9.alloc (.cells cs 27)) w9.heap.size cs 27 from CellsAt.new _ _ _).setRow' _, hg.trans (GrownX.of_below hb9), fun W hW hk => hn.ph hW (fun i h3 h4 => (hk i (Nat.le_trans hs h3) (Nat.lt_of_lt_of_le h4 hb9.size)).trans (hb9.block i h4))⟩
/-- the answer kept in a cell allocated ahead of the call -/
theorem stepB_any {Z V w9 : World} {b m b2 m2 : Nat} {most : Int} {M M2 : List TdC} {A A2 : Option Addr} {c c2 : Nat} {L L2 : List Td} {cs : Array Value} (hst : StP Z b m most M A c L) (hV : Below Z.heap.size Z V) (hs : V.heap.size = Z.heap.size + 1) (hC : CellsAt V Z.heap.size cs 27) (h2 : StP w9 b2 m2 most M2 A2 c2 L2) (hg : GrownX (fun i => i = m) V w9) (hn : NewL V w9 A c L A2 c2 L2) :
    CellsAt w9 Z.heap.size cs 27 ∧ StP (w9.setRow Z.heap.size (ribAr most A2 L2.length c2)) b2 m2 most M2 A2 c2 L2 ∧ CellsAt (w9.setRow Z.heap.size (ribAr most A2 L2.length c2)) Z.heap.size (ribAr most A2 L2.length c2) 27 ∧ GrownX (fun i => i = m) Z (w9.setRow Z.heap.size (ribAr most A2 L2.length c2)) ∧ (∀ W, PhL W A c L → (∀ i, Z.heap.size ≤ i → i < (w9.setRow Z.heap.size (ribAr most A2 L2.length c2)).heap.size → W.heap[i]? = (w9.setRow Z.heap.size (ribAr most A2 L2.length c2)).heap[i]?) → PhL W A2 c2 L2) := by
  obtain ⟨hm, hmb⟩ := hst.mapOk
  have hC9 : CellsAt w9 Z.heap.size cs 27 := hC.grownX hg (by omega)
  have hgr := grown_setRow' w9 Z.heap.size (ribAr most A2 L2.length c2)
  have hGF : GrownX (fun i => i = m) Z (w9.setRow Z.heap.size (ribAr most A2 L2.length c2)) := ((GrownX.of_below hV).trans hg).new_ (GrownX.of_row (X := fun i => i = Z.heap.size) hgr rfl) (fun i hi => by rw [hi]; exact Nat.le_refl _)
  refine ⟨hC9, ⟨?_, ?_, h2.rel⟩, hC9.setRow' _, hGF, fun W hW hk => hn.ph hW (fun i h3 h4 => (hk i (by omega) (Nat.lt_of_lt_of_le h4 hgr.size)).trans (hgr.block i h4 (fun e => by injection e with e; omega)))⟩
  · obtain ⟨base, hr⟩ := h2.rib
    obtain ⟨a1, a2⟩ := hr.apart hC9
    exact ⟨base, hr.offT hgr hC9 a1 a2⟩
  · exact hn.ph (hst.ph.keepX hGF (fun i hi => by rw [hi]; exact hmb)) (fun i h3 h4 => hgr.block i h4 (fun e => by injection e with e; omega))
/-- a list that a store into block g leaves alone -/
def OffL (g : Nat) (w : World) (A : Option Addr) (c : Nat) (L : List Td) : Prop := ∀ W : World, (∀ i, i < w.heap.size → i ≠ g → W.heap[i]? = w.heap[i]?) → PhL W A c L
theorem OffL.below {g : Nat} {w w' : World} {A : Option Addr} {c : Nat} {L : List Td} (h : OffL g w A c L) (hb : Below w.heap.size w w') : OffL g w' A c L := fun W hW => h W fun i hi hg => (hW i (Nat.lt_of_lt_of_le hi hb.size) hg).trans (hb.block i hi)
theorem OffL.row {g : Nat} {w w' : World} {A : Option Addr} {c : Nat} {L : List Td} (h : OffL g w A c L) (hr : w.grownBy w' (some g)) : OffL g w' A c L := fun W hW => h W fun i hi hg => (hW i (Nat.lt_of_lt_of_le hi hr.size) hg).trans (hr.block i hi (fun e => by injection e with e; exact hg e))
theorem OffL.step {g m : Nat} {Z Y : World} {A A2 : Option Addr} {c c2 : Nat} {L L2 : List Td} (h : OffL g Z A c L) (hg : g < Z.heap.size) (hm : m < Z.heap.size) (hmb : ∀ cs T fr, Z.heap[m]? ≠ some (.cells cs T fr)) (hG : GrownX (fun i => i = m) Z Y) (h2 : ∀ W, PhL W A c L → (∀ i, Z.heap.size ≤ i → i < Y.heap.size → W.heap[i]? = Y.heap[i]?) → PhL W A2 c2 L2) (hmg : m ≠ g) (hmY : m < Y.heap.size) : OffL g Y A2 c2 L2 := fun W hW => by
  refine h2 W ?_ (fun i h1 h3 => hW i h3 (by omega))
  obtain ⟨x, hx⟩ : ∃ x, Z.heap[m]? = some x := ⟨Z.heap[m]'hm, Array.getElem?_eq_getElem hm⟩
  have hmW : m < W.heap.size := by
    have h1 := hW m hmY hmg
    have h3 : Y.heap[m]? = some (Y.heap[m]'hmY) := Array.getElem?_eq_getElem hmY
    rw [h3] at h1
    exact (Array.getElem?_eq_some_iff.1 h1).1
  have hat : ({ W with heap := W.heap.setIfInBounds m x } : World).heap[m]? = some x := by
    show (W.heap.setIfInBounds m x)[m]? = some x
    rw [Array.getElem?_setIfInBounds_self_of_lt hmW]
  have hof : ∀ i, i ≠ m → ({ W with heap := W.heap.setIfInBounds m x } : World).heap[i]? = W.heap[i]? := fun i hi => by
    show (W.heap.setIfInBounds m x)[i]? = _
    rw [Array.getElem?_setIfInBounds_ne (fun e => hi e.symm)]
  refine (h { W with heap := W.heap.setIfInBounds m x } (fun i hi hig => ?_)).keepX (X := fun i => i = m) ⟨rfl, rfl, rfl, by show (W.heap.setIfInBounds m x).size ≤ _; rw [Array.size_setIfInBounds]; exact Nat.le_refl _, fun i _ hi => (hof i hi).symm⟩ (fun i hi cs T fr e => ?_)
  · by_cases him : i = m
    · rw [him, hat, hx]
    · rw [hof i him, hW i (Nat.lt_of_lt_of_le hi hG.size) hig, hG.block i hi him]
  · rw [hi, hat] at e
    exact hmb cs T fr (by rw [hx, e])
set_option maxRecDepth 100000 in
set_option maxHeartbeats 16000000 in
theorem plays_walk (most : Int) (A0 : Option Addr) (D : List Dv) (cap : Nat) (w : World) (h : DosOk w A0 cap D) :
    Calls Tryz.prog 3 #[.int .i64 most, .slice A0 D.length cap] w fun e w' => e = .returned (.bool true) ∧ Below w.heap.size w w' := by
  have HD := Lib.hid h
  have hm1 := h.len
  have hm2 := h.cap
  obtain ⟨N, hN1, hN2, hN3⟩ : ∃ N : Nat, N ≤ D.length ∧ N ≤ 150 ∧ (N = D.length ∨ N = 150) := ⟨min D.length 150, by omega, by omega, by omega⟩
  clear h
  have HWK := Lib.hid rworks_any
  have HNEW := Lib.hid (fun w => rnewM_any most w)
  go_enter Tryz.func3, Tryz.ntmps3
  go_wp2_with fail
  refine (HNEW.out _).mono ?_
  rintro e w1 ⟨b0, m0, rfl, hr, hb, hm, hbb⟩
  have HR0 : Hid (RibM w1 w.heap.size b0 m0 most []) := hr
  have HB0 : Hid (Below w.heap.size w w1) := hb
  have HM0 : Hid (w.heap.size ≤ m0) := hm
  clear hr hb hm hbb HNEW
  go_upto_region 5 with (with_reducible show wpList _ _ _ (_ :: _) _ _; refine wpList_store_rib rfl (.tmp 6) (.tmp 19) rfl w1.heap.size rfl most none 0 0 rfl _ (CellsAt.new _ _ _) rfl ?_)
  refine rb_name fun Z0 hZ0 => ?_
  obtain ⟨g6, hg6⟩ : ∃ x, x = w1.heap.size := ⟨_, rfl⟩
  have hb1 : Below w1.heap.size w1 Z0 := by rw [hZ0]; exact ((Below.refl _ _).alloc (Nat.le_refl _) _).grown (grown_setRow' _ _ _) (by simp) (fun q hq => by cases hq; exact Nat.le_refl _)
  have HC0 : Hid (CellsAt Z0 g6 (ribAr most none 0 0) 27) := by rw [hZ0, hg6]; exact (CellsAt.new _ _ _).setRow' _
  have HS0 : Hid (StP Z0 b0 m0 most [] none 0 []) := ⟨⟨_, HR0.out.below hb1⟩, PhL.nil _, rel_nil⟩
  have HBZ0 : Hid (Below w.heap.size w Z0) := HB0.out.trans (hb1.mono HB0.out.size)
  have HG6 : Hid (w.heap.size ≤ g6) := by rw [hg6]; exact HB0.out.size
  rw [← hg6]
  clear hZ0 hg6 hb1 HR0 HB0
  go_wp2_with fail
  go_loopw [5, 7] (fun r i wr => ∃ (n b m : Nat) (M : List TdC) (A : Option Addr) (c : Nat) (L : List Td), r = .pointer (some ⟨b, 0, none⟩) ∧ i = .int .i64 n ∧ n ≤ N ∧ Hid (M.length ≤ n) ∧ Hid (StP wr b m most M A c L) ∧ Hid (CellsAt wr g6 (ribAr most A L.length c) 27) ∧ Hid (OffL g6 wr A c L) ∧ Hid (w.heap.size ≤ m) ∧ Hid (Below w.heap.size w wr)) (fun _ i _ => N + 1 - (intOf i).toNat)
  case atStart => exact ⟨0, b0, m0, [], none, 0, [], rfl, rfl, Nat.zero_le _, Nat.le_refl _, HS0.out, HC0.out, fun W _ => PhL.nil W, HM0.out, HBZ0.out⟩
  case round =>
    clear HC0 HS0 HBZ0 HM0
    obtain ⟨Z, hZ⟩ : ∃ x, x = wr := ⟨_, rfl⟩
    subst hZ
    obtain ⟨n, b, m, M, A, c, L, rfl, rfl, hn, HML, HST, HC6, HOFF, HM, HB⟩ := hrel
    by_cases hlt : n < N
    · as_aux_lemma =>
      have hlD : n < D.length := by omega
      have hl150 : n < 150 := by omega
      obtain ⟨d, hd⟩ : ∃ x, D[n]? = some x := ⟨D[n]'hlD, List.getElem?_eq_getElem _⟩
      have HDZ := Lib.hid (HD.out.below HB.out)
      obtain ⟨a0, off, rfl, hrow⟩ := HDZ.out.row hd
      have HDK := Lib.hid (HDZ.out.ok d (List.mem_of_getElem? hd))
      obtain ⟨z, k, label, a, fam⟩ := d
      dsimp only at hrow
      have HM1 := Lib.hid HST.out.mapOk
      have HDO : Hid (∀ W, GrownX (fun i => i = m) Z W → W.rangeAt a0 (off + n * 24) (doAr z k label a fam).toList) := fun W hW => by
        obtain ⟨b', off', e, h2⟩ := (HDZ.out.keepX hW (fun i hi => by rw [hi]; exact HM1.out.2)).row hd
        injection e with e
        injection e with e1 e2 _
        subst e1
        subst e2
        exact (h2 W (Below.refl _ _)).1
      have HDF : Hid (∀ W, Below w.heap.size w W → W.cell? ⟨a0, off + n * 24 + 1, none⟩ = some (.int .i64 k.fam)) := fun W hW => by
        obtain ⟨b', off', e, h2⟩ := HD.out.row hd
        injection e with e
        injection e with e1 e2 _
        subst e1
        subst e2
        exact (h2 W hW).2
      have HSTEP : Hid (∀ W, Below Z.heap.size Z W → Calls Tryz.prog 5 #[.pointer (some ⟨b, 0, none⟩), .agg (ribAr most A L.length c), .agg (doAr z k label a fam)] W fun e w' => StepPost W m most M A c L w' e) := fun W hW => step_any (HST.out.below hW) (by have := HML.out; omega) z k HDK.out.k label HDK.out.label a (HDK.out.a.below hW (Nat.le_refl _)) HDK.out.sz fam
      have HC : Hid (∀ W, GrownX (fun i => i = m) Z W → CellsAt W g6 (ribAr most A L.length c) 27) := fun W hW => HC6.out.grownX hW (fun e => HM1.out.2 _ _ _ (by rw [← show g6 = m from e]; exact HC6.out))
      have HB0 : Hid (Below Z.heap.size Z Z.drew) := below_drewN (Below.refl _ _) 1
      clear hrow hd
      go_upto_region 8 with fail
      go_cut [8, 9, 10] (fun v8 v9 v10 wx => ∃ (g b2 m2 : Nat) (M2 : List TdC) (A2 : Option Addr) (c2 : Nat) (L2 : List Td), v8 = .pointer (some ⟨b2, 0, none⟩) ∧ v9 = .pointer (some ⟨g, 0, none⟩) ∧ v10 = .bool true ∧ Hid (StP wx b2 m2 most M2 A2 c2 L2) ∧ Hid (CellsAt wx g (ribAr most A2 L2.length c2) 27) ∧ Hid (GrownX (fun i => i = m) Z wx) ∧ Hid (∀ W, PhL W A c L → (∀ i, Z.heap.size ≤ i → i < wx.heap.size → W.heap[i]? = wx.heap[i]?) → PhL W A2 c2 L2) ∧ Hid (M2.length ≤ M.length + 1) ∧ Hid (m2 = m ∨ Z.heap.size ≤ m2))
      case first =>
        refine wp_region_held_drew (S := fun w' => GrownX (fun i => i = m) Z w') (by kernel_rfl) ((GrownX.refl _ _).drew 1) (fun hHeld => ?_)
        refine wpAnyH_take (i := 0) (oi := { dst := some 31, op := Op.move (Operand.tmp 5), type := 23, pos := "law.go:86", after := #[], guard := none }) (v := ?_) rfl (by kernel_rfl) (by kernel_rfl) (by kernel_rfl) (fun _ _ _ h => h) (Or.inl ⟨by rfl, ?_⟩) hHeld ?_
        rotate_left
        · intro w hSw
          clear hSw
          go_simp
          try with_reducible rfl
        try simp only [Act.put, List.setIfInBounds_toArray, List.set_cons_zero, List.set_cons_succ]
        refine wpAnyH_take (i := 1) (oi := { dst := some 32, op := Op.load 27 (Operand.tmp 6), type := 27, pos := "law.go:86", after := #[], guard := none }) (v := Value.agg (ribAr most A L.length c)) rfl (by kernel_rfl) (by kernel_rfl) (by kernel_rfl) (fun _ _ _ h => h) (yields_rib (by rfl) (.tmp 6) rfl g6 (by rfl) most A L.length c (fun w hSw => HC.out w hSw)) hHeld ?_
        try simp only [Act.put, List.setIfInBounds_toArray, List.set_cons_zero, List.set_cons_succ]
        refine wpAnyH_take (i := 2) (oi := { dst := some 33, op := Op.move (Operand.tmp 1), type := 22, pos := "law.go:86", after := #[], guard := none }) (v := ?_) rfl (by kernel_rfl) (by kernel_rfl) (by kernel_rfl) (fun _ _ _ h => h) (Or.inl ⟨by rfl, ?_⟩) hHeld ?_
        rotate_left
        · intro w hSw
          clear hSw
          go_simp
          try with_reducible rfl
        try simp only [Act.put, List.setIfInBounds_toArray, List.set_cons_zero, List.set_cons_succ]
        refine wpAnyH_take (i := 3) (oi := { dst := some 34, op := Op.move (Operand.tmp 7), type := 3, pos := "law.go:86", after := #[], guard := none }) (v := ?_) rfl (by kernel_rfl) (by kernel_rfl) (by kernel_rfl) (fun _ _ _ h => h) (Or.inl ⟨by rfl, ?_⟩) hHeld ?_
        rotate_left
        · intro w hSw
          clear hSw
          go_simp
          try with_reducible rfl
        try simp only [Act.put, List.setIfInBounds_toArray, List.set_cons_zero, List.set_cons_succ]
        refine wpAnyH_take (i := 4) (oi := { dst := some 35, op := Op.indexAddr 22 (Operand.tmp 33) (Operand.tmp 34), type := 0, pos := "law.go:86", after := #[{ on := 2, ground := Ground.data }, { on := 3, ground := Ground.data }], guard := none }) (v := ?_) rfl (by kernel_rfl) (by kernel_rfl) (by kernel_rfl) (fun _ _ _ h => h) (Or.inl ⟨by rfl, ?_⟩) hHeld ?_
        rotate_left
        · intro w hSw
          clear hSw
          go_simp
          try with_reducible rfl
        try simp only [Act.put, List.setIfInBounds_toArray, List.set_cons_zero, List.set_cons_succ]
        refine wpAnyH_take (i := 5) (oi := { dst := some 36, op := Op.load 43 (Operand.tmp 35), type := 43, pos := "law.go:86", after := #[{ on := 4, ground := Ground.data }], guard := none }) (v := Value.agg (doAr z k label a fam)) rfl (by kernel_rfl) (by kernel_rfl) (by kernel_rfl) (fun _ _ _ h => h) (yields_do (by rfl) (.tmp 35) rfl a0 (off + n * 24) (by rfl) z k label a fam (fun w hSw => HDO.out w hSw)) hHeld ?_
        try simp only [Act.put, List.setIfInBounds_toArray, List.set_cons_zero, List.set_cons_succ]
        refine wpAnyH_ready (rs := [6, 11]) (by kernel_rfl) (by simp) ?_
        refine AllReadyH.cons (o := { dst := some 37, op := Op.call { callee := Callee.value (Operand.func 5), args := #[Operand.tmp 31, Operand.tmp 32, Operand.tmp 36], argTypes := #[23, 27, 43] }, type := 28, pos := "law.go:86", after := #[{ on := 0, ground := Ground.data }, { on := 1, ground := Ground.data }, { on := 5, ground := Ground.data }], guard := none }) rfl (fun K hK => ?_) ?_
        · go_simp
          refine (HSTEP.out _ (HB0.out)).mono ?_
          rintro e w9 ⟨b2, m2, M2, A2, c2, L2, rfl, hst2, hml2, hm2, hg2, hnl2⟩
          have HST9 := Lib.hid hst2
          have HG29 := Lib.hid hg2
          have HNL9 := Lib.hid hnl2
          have HML9 : Hid (M2.length ≤ M.length + 1) := hml2
          have HM9 : Hid (m2 = m ∨ Z.heap.size ≤ m2) := hm2.imp id (fun h => Nat.le_trans (hHeld.size) h)
          have HG9 : Hid (GrownX (fun i => i = m) Z w9) := hHeld.trans hg2
          clear hst2 hml2 hm2 hg2 hnl2
          refine hK.out _ _ HG9.out (fun hHeld => ?_)
          clear hK K
          try simp only [Act.put, List.setIfInBounds_toArray, List.set_cons_zero, List.set_cons_succ]
          refine wpAnyH_take (i := 7) (oi := { dst := some 30, op := Op.move (Operand.tmp 37), type := 28, pos := "law.go:86", after := #[{ on := 6, ground := Ground.data }], guard := none }) (v := ?_) rfl (by kernel_rfl) (by kernel_rfl) (by kernel_rfl) (fun _ _ _ h => h) (Or.inl ⟨by rfl, ?_⟩) hHeld ?_
          rotate_left
          · intro w hSw
            clear hSw
            go_simp
            try with_reducible rfl
          try simp only [Act.put, List.setIfInBounds_toArray, List.set_cons_zero, List.set_cons_succ]
          refine wpAnyH_take (i := 8) (oi := { dst := some 38, op := Op.extract (Operand.tmp 30) 0, type := 23, pos := "law.go:86", after := #[{ on := 7, ground := Ground.data }], guard := none }) (v := ?_) rfl (by kernel_rfl) (by kernel_rfl) (by kernel_rfl) (fun _ _ _ h => h) (Or.inl ⟨by rfl, ?_⟩) hHeld ?_
          rotate_left
          · intro w hSw
            clear hSw
            go_simp
            try with_reducible rfl
          try simp only [Act.put, List.setIfInBounds_toArray, List.set_cons_zero, List.set_cons_succ]
          refine wpAnyH_take (i := 9) (oi := { dst := some 39, op := Op.extract (Operand.tmp 30) 1, type := 27, pos := "law.go:86", after := #[{ on := 7, ground := Ground.data }, { on := 12, ground := Ground.gcOnly Departure.lateStores }], guard := none }) (v := ?_) rfl (by kernel_rfl) (by kernel_rfl) (by kernel_rfl) (fun _ _ _ h => h) (Or.inl ⟨by rfl, ?_⟩) hHeld ?_
          rotate_left
          · intro w hSw
            clear hSw
            go_simp
            try with_reducible rfl
          try simp only [Act.put, List.setIfInBounds_toArray, List.set_cons_zero, List.set_cons_succ]
          refine wpAnyH_take (i := 10) (oi := { dst := some 40, op := Op.extract (Operand.tmp 30) 2, type := 4, pos := "law.go:86", after := #[{ on := 7, ground := Ground.data }, { on := 13, ground := Ground.gcOnly Departure.lateStores }], guard := none }) (v := ?_) rfl (by kernel_rfl) (by kernel_rfl) (by kernel_rfl) (fun _ _ _ h => h) (Or.inl ⟨by rfl, ?_⟩) hHeld ?_
          rotate_left
          · intro w hSw
            clear hSw
            go_simp
            try with_reducible rfl
          try simp only [Act.put, List.setIfInBounds_toArray, List.set_cons_zero, List.set_cons_succ]
          have HNx9 : Hid (∀ cs : Array Value, CellsAt (w9.alloc (.cells cs 27)) w9.heap.size cs 27) := fun cs => CellsAt.new _ _ _
          have HFA := Lib.hid (fun cs => stepA_any HST9.out HG9.out HB0.out.size HNL9.out cs)
          refine wpAnyH_ready (rs := [11]) (by kernel_rfl) (by simp) ?_
          refine AllReadyH.cons (o := { dst := some 9, op := Op.alloc 27, type := 0, pos := "law.go:86", after := #[], guard := none }) rfl (fun K hK => ?_) AllReadyH.nil
          go_simp
          refine hK.out _ _ (HG9.out.trans (GrownX.of_below ((Below.refl _ _).alloc (Nat.le_refl _) _))) (fun hHeld => ?_)
          clear hK K
          try simp only [Act.put, List.setIfInBounds_toArray, List.set_cons_zero, List.set_cons_succ]
          refine wpAnyH_take (i := 12) (oi := { dst := some 8, op := Op.assign (Operand.tmp 38), type := 23, pos := "law.go:86", after := #[{ on := 8, ground := Ground.data }, { on := 6, ground := Ground.chain }, { on := 0, ground := Ground.phase }, { on := 1, ground := Ground.phase }, { on := 2, ground := Ground.phase }, { on := 3, ground := Ground.phase }, { on := 4, ground := Ground.phase }, { on := 5, ground := Ground.phase }, { on := 6, ground := Ground.phase }, { on := 7, ground := Ground.phase }, { on := 8, ground := Ground.phase }, { on := 9, ground := Ground.textOnly Departure.lateStores }, { on := 10, ground := Ground.textOnly Departure.lateStores }, { on := 11, ground := Ground.phase }], guard := none }) (v := ?_) rfl (by kernel_rfl) (by kernel_rfl) (by kernel_rfl) (fun _ _ _ h => h) (Or.inl ⟨by rfl, ?_⟩) hHeld ?_
          rotate_left
          · intro w hSw
            clear hSw
            go_simp
            try with_reducible rfl
          try simp only [Act.put, List.setIfInBounds_toArray, List.set_cons_zero, List.set_cons_succ]
          refine wpAnyH_ready (rs := [13]) (by kernel_rfl) (by simp) ?_
          refine AllReadyH.cons (o := { dst := none, op := Op.store 27 (Operand.tmp 9) (Operand.tmp 39), type := 0, pos := "law.go:86", after := #[{ on := 11, ground := Ground.data }, { on := 9, ground := Ground.data }, { on := 12, ground := Ground.chain }, { on := 0, ground := Ground.phase }, { on := 1, ground := Ground.phase }, { on := 2, ground := Ground.phase }, { on := 3, ground := Ground.phase }, { on := 4, ground := Ground.phase }, { on := 5, ground := Ground.phase }, { on := 6, ground := Ground.phase }, { on := 7, ground := Ground.phase }, { on := 8, ground := Ground.phase }, { on := 9, ground := Ground.phase }, { on := 10, ground := Ground.textOnly Departure.lateStores }, { on := 11, ground := Ground.phase }, { on := 12, ground := Ground.phase }], guard := none }) rfl (fun K hK => ?_) AllReadyH.nil
          refine wp_store_row 27 (.tmp 9) (.tmp 39) rfl w9.heap.size (ribAr most A2 L2.length c2) rfl rfl 27 _ (HNx9.out _) (by rw [rib_size]; rfl) rfl (rib_ones _ _ _ _) ?_
          refine hK.out _ _ ((HFA.out _).2.2.1) (fun hHeld => ?_)
          clear hK K
          try simp only [Act.put, List.setIfInBounds_toArray, List.set_cons_zero, List.set_cons_succ]
          refine wpAnyH_take (i := 14) (oi := { dst := some 10, op := Op.assign (Operand.tmp 40), type := 4, pos := "law.go:86", after := #[{ on := 10, ground := Ground.data }, { on := 13, ground := Ground.chain }, { on := 0, ground := Ground.phase }, { on := 1, ground := Ground.phase }, { on := 2, ground := Ground.phase }, { on := 3, ground := Ground.phase }, { on := 4, ground := Ground.phase }, { on := 5, ground := Ground.phase }, { on := 6, ground := Ground.phase }, { on := 7, ground := Ground.phase }, { on := 8, ground := Ground.phase }, { on := 9, ground := Ground.phase }, { on := 10, ground := Ground.phase }, { on := 11, ground := Ground.phase }, { on := 12, ground := Ground.phase }, { on := 13, ground := Ground.phase }], guard := none }) (v := ?_) rfl (by kernel_rfl) (by kernel_rfl) (by kernel_rfl) (fun _ _ _ h => h) (Or.inl ⟨by rfl, ?_⟩) hHeld ?_
          rotate_left
          · intro w hSw
            clear hSw
            go_simp
            try with_reducible rfl
          try simp only [Act.put, List.setIfInBounds_toArray, List.set_cons_zero, List.set_cons_succ]
          refine wpAnyH_done (by kernel_rfl) ?_ _
          clear hHeld
          go_wp2_with fail
          go_meet
          exact ⟨_, b2, m2, M2, A2, c2, L2, rfl, rfl, rfl, (HFA.out _).1, (HFA.out _).2.1, (HFA.out _).2.2.1, (HFA.out _).2.2.2, HML9.out, HM9.out⟩
        · refine AllReadyH.cons (o := { dst := some 9, op := Op.alloc 27, type := 0, pos := "law.go:86", after := #[], guard := none }) rfl (fun K hK => ?_) AllReadyH.nil
          go_simp
          have HNB : Hid (∀ cs : Array Value, CellsAt (Z.drew.alloc (.cells cs 27)) Z.heap.size cs 27) := fun cs => CellsAt.new Z.drew _ _
          have HbB : Hid (∀ cs : Array Value, Below Z.heap.size Z (Z.drew.alloc (.cells cs 27))) := fun cs => (show Below Z.heap.size Z Z.drew from below_drewN (Below.refl _ _) 1).alloc (Nat.le_refl _) _
          have HSZ : Hid (∀ cs : Array Value, (Z.drew.alloc (.cells cs 27)).heap.size = Z.heap.size + 1) := fun cs => by rw [World.size_alloc]; rfl
          refine hK.out _ _ (GrownX.of_below (HbB.out _)) (fun hHeld => ?_)
          clear hK K
          try simp only [Act.put, List.setIfInBounds_toArray, List.set_cons_zero, List.set_cons_succ]
          refine wpAnyH_ready (rs := [6]) (by kernel_rfl) (by simp) ?_
          refine AllReadyH.cons (o := { dst := some 37, op := Op.call { callee := Callee.value (Operand.func 5), args := #[Operand.tmp 31, Operand.tmp 32, Operand.tmp 36], argTypes := #[23, 27, 43] }, type := 28, pos := "law.go:86", after := #[{ on := 0, ground := Ground.data }, { on := 1, ground := Ground.data }, { on := 5, ground := Ground.data }], guard := none }) rfl (fun K hK => ?_) AllReadyH.nil
          go_simp
          refine (HSTEP.out _ (HbB.out _)).mono ?_
          rintro e w9 ⟨b2, m2, M2, A2, c2, L2, rfl, hst2, hml2, hm2, hg2, hnl2⟩
          have HST9 := Lib.hid hst2
          have HG29 := Lib.hid hg2
          have HNL9 := Lib.hid hnl2
          have HML9 : Hid (M2.length ≤ M.length + 1) := hml2
          have HM9 : Hid (m2 = m ∨ Z.heap.size ≤ m2) := hm2.imp id (fun h => Nat.le_trans (hHeld.size) h)
          have HG9 : Hid (GrownX (fun i => i = m) Z w9) := hHeld.trans hg2
          clear hst2 hml2 hm2 hg2 hnl2
          refine hK.out _ _ HG9.out (fun hHeld => ?_)
          clear hK K
          try simp only [Act.put, List.setIfInBounds_toArray, List.set_cons_zero, List.set_cons_succ]
          refine wpAnyH_take (i := 7) (oi := { dst := some 30, op := Op.move (Operand.tmp 37), type := 28, pos := "law.go:86", after := #[{ on := 6, ground := Ground.data }], guard := none }) (v := ?_) rfl (by kernel_rfl) (by kernel_rfl) (by kernel_rfl) (fun _ _ _ h => h) (Or.inl ⟨by rfl, ?_⟩) hHeld ?_
          rotate_left
          · intro w hSw
            clear hSw
            go_simp
            try with_reducible rfl
          try simp only [Act.put, List.setIfInBounds_toArray, List.set_cons_zero, List.set_cons_succ]
          refine wpAnyH_take (i := 8) (oi := { dst := some 38, op := Op.extract (Operand.tmp 30) 0, type := 23, pos := "law.go:86", after := #[{ on := 7, ground := Ground.data }], guard := none }) (v := ?_) rfl (by kernel_rfl) (by kernel_rfl) (by kernel_rfl) (fun _ _ _ h => h) (Or.inl ⟨by rfl, ?_⟩) hHeld ?_
          rotate_left
          · intro w hSw
            clear hSw
            go_simp
            try with_reducible rfl
          try simp only [Act.put, List.setIfInBounds_toArray, List.set_cons_zero, List.set_cons_succ]
          refine wpAnyH_take (i := 9) (oi := { dst := some 39, op := Op.extract (Operand.tmp 30) 1, type := 27, pos := "law.go:86", after := #[{ on := 7, ground := Ground.data }, { on := 12, ground := Ground.gcOnly Departure.lateStores }], guard := none }) (v := ?_) rfl (by kernel_rfl) (by kernel_rfl) (by kernel_rfl) (fun _ _ _ h => h) (Or.inl ⟨by rfl, ?_⟩) hHeld ?_
          rotate_left
          · intro w hSw
            clear hSw
            go_simp
            try with_reducible rfl
          try simp only [Act.put, List.setIfInBounds_toArray, List.set_cons_zero, List.set_cons_succ]
          refine wpAnyH_take (i := 10) (oi := { dst := some 40, op := Op.extract (Operand.tmp 30) 2, type := 4, pos := "law.go:86", after := #[{ on := 7, ground := Ground.data }, { on := 13, ground := Ground.gcOnly Departure.lateStores }], guard := none }) (v := ?_) rfl (by kernel_rfl) (by kernel_rfl) (by kernel_rfl) (fun _ _ _ h => h) (Or.inl ⟨by rfl, ?_⟩) hHeld ?_
          rotate_left
          · intro w hSw
            clear hSw
            go_simp
            try with_reducible rfl
          try simp only [Act.put, List.setIfInBounds_toArray, List.set_cons_zero, List.set_cons_succ]
          have HFB := Lib.hid (stepB_any HST.out (HbB.out _) (HSZ.out _) (HNB.out _) HST9.out HG29.out HNL9.out)
          refine wpAnyH_take (i := 12) (oi := { dst := some 8, op := Op.assign (Operand.tmp 38), type := 23, pos := "law.go:86", after := #[{ on := 8, ground := Ground.data }, { on := 6, ground := Ground.chain }, { on := 0, ground := Ground.phase }, { on := 1, ground := Ground.phase }, { on := 2, ground := Ground.phase }, { on := 3, ground := Ground.phase }, { on := 4, ground := Ground.phase }, { on := 5, ground := Ground.phase }, { on := 6, ground := Ground.phase }, { on := 7, ground := Ground.phase }, { on := 8, ground := Ground.phase }, { on := 9, ground := Ground.textOnly Departure.lateStores }, { on := 10, ground := Ground.textOnly Departure.lateStores }, { on := 11, ground := Ground.phase }], guard := none }) (v := ?_) rfl (by kernel_rfl) (by kernel_rfl) (by kernel_rfl) (fun _ _ _ h => h) (Or.inl ⟨by rfl, ?_⟩) hHeld ?_
          rotate_left
          · intro w hSw
            clear hSw
            go_simp
            try with_reducible rfl
          try simp only [Act.put, List.setIfInBounds_toArray, List.set_cons_zero, List.set_cons_succ]
          refine wpAnyH_ready (rs := [13]) (by kernel_rfl) (by simp) ?_
          refine AllReadyH.cons (o := { dst := none, op := Op.store 27 (Operand.tmp 9) (Operand.tmp 39), type := 0, pos := "law.go:86", after := #[{ on := 11, ground := Ground.data }, { on := 9, ground := Ground.data }, { on := 12, ground := Ground.chain }, { on := 0, ground := Ground.phase }, { on := 1, ground := Ground.phase }, { on := 2, ground := Ground.phase }, { on := 3, ground := Ground.phase }, { on := 4, ground := Ground.phase }, { on := 5, ground := Ground.phase }, { on := 6, ground := Ground.phase }, { on := 7, ground := Ground.phase }, { on := 8, ground := Ground.phase }, { on := 9, ground := Ground.phase }, { on := 10, ground := Ground.textOnly Departure.lateStores }, { on := 11, ground := Ground.phase }, { on := 12, ground := Ground.phase }], guard := none }) rfl (fun K hK => ?_) AllReadyH.nil
          refine wp_store_row 27 (.tmp 9) (.tmp 39) rfl Z.heap.size (ribAr most A2 L2.length c2) rfl rfl 27 _ HFB.out.1 (by rw [rib_size]; rfl) rfl (rib_ones _ _ _ _) ?_
          refine hK.out _ _ (HFB.out.2.2.2.1) (fun hHeld => ?_)
          clear hK K
          try simp only [Act.put, List.setIfInBounds_toArray, List.set_cons_zero, List.set_cons_succ]
          refine wpAnyH_take (i := 14) (oi := { dst := some 10, op := Op.assign (Operand.tmp 40), type := 4, pos := "law.go:86", after := #[{ on := 10, ground := Ground.data }, { on := 13, ground := Ground.chain }, { on := 0, ground := Ground.phase }, { on := 1, ground := Ground.phase }, { on := 2, ground := Ground.phase }, { on := 3, ground := Ground.phase }, { on := 4, ground := Ground.phase }, { on := 5, ground := Ground.phase }, { on := 6, ground := Ground.phase }, { on := 7, ground := Ground.phase }, { on := 8, ground := Ground.phase }, { on := 9, ground := Ground.phase }, { on := 10, ground := Ground.phase }, { on := 11, ground := Ground.phase }, { on := 12, ground := Ground.phase }, { on := 13, ground := Ground.phase }], guard := none }) (v := ?_) rfl (by kernel_rfl) (by kernel_rfl) (by kernel_rfl) (fun _ _ _ h => h) (Or.inl ⟨by rfl, ?_⟩) hHeld ?_
          rotate_left
          · intro w hSw
            clear hSw
            go_simp
            try with_reducible rfl
          try simp only [Act.put, List.setIfInBounds_toArray, List.set_cons_zero, List.set_cons_succ]
          refine wpAnyH_done (by kernel_rfl) ?_ _
          clear hHeld
          go_wp2_with fail
          go_meet
          exact ⟨_, b2, m2, M2, A2, c2, L2, rfl, rfl, rfl, HFB.out.2.1, HFB.out.2.2.1, HFB.out.2.2.2.1, HFB.out.2.2.2.2, HML9.out, HM9.out⟩
      case rest =>
      obtain ⟨Y, hY⟩ : ∃ x, x = wc := ⟨_, rfl⟩
      subst hY
      obtain ⟨g9, b2, m2, M2, A2, c2, L2, rfl, rfl, rfl, HSTY, HCY, HGY, HP2Y, HMLY, HMY⟩ := hcut
      have hne6 : m ≠ g6 := fun e => HM1.out.2 _ _ _ (by rw [e]; exact HC6.out)
      have HM2 : Hid (w.heap.size ≤ m2) := by
        rcases HMY.out with h | h
        · rw [h]; exact HM.out
        · exact Nat.le_trans HB.out.size h
      have HBY : Hid (Below w.heap.size w Y) := HGY.out.below HB.out (fun i hi => by rw [hi]; exact HM.out) HB.out.size
      have HC6Y := Lib.hid (HC.out Y HGY.out)
      have HOY : Hid (OffL g6 Y A2 c2 L2) := HOFF.out.step HC6.out.lt HM1.out.1 HM1.out.2 HGY.out HP2Y.out hne6 (Nat.lt_of_lt_of_le HM1.out.1 HGY.out.size)
      have HML2 : Hid (M2.length ≤ n + 1) := by have h1 := HML.out; have h2 := HMLY.out; show _ ≤ _; omega
      clear hne6 HM1 HC6 HOFF HM HB HML HMLY HMY HP2Y HGY HC HDO HDK HDZ HSTEP HB0 HST
      go_upto_region 13 with (with_reducible show wpList _ _ _ (_ :: _) _ _; first | refine wpList_load_rib rfl (.tmp 9) rfl g9 rfl most A2 L2.length c2 HCY.out ?_ | refine wpList_store_rib rfl (.tmp 6) (.tmp 44) rfl g6 rfl most A2 L2.length c2 rfl _ HC6Y.out rfl ?_)
      refine rb_name fun U hU => ?_
      have hgr := grown_setRow' Y g6 (ribAr most A2 L2.length c2)
      have HCU : Hid (CellsAt U g6 (ribAr most A2 L2.length c2) 27) := by rw [hU]; exact HC6Y.out.setRow' _
      have HOU : Hid (OffL g6 U A2 c2 L2) := by rw [hU]; exact HOY.out.row hgr
      have HSU : Hid (StP U b2 m2 most M2 A2 c2 L2) := ⟨by obtain ⟨base, hr⟩ := HSTY.out.rib; obtain ⟨a1, a2⟩ := hr.apart HC6Y.out; rw [hU]; exact ⟨base, hr.offT hgr HC6Y.out a1 a2⟩, by rw [hU]; exact HOY.out _ (fun i hi hg => hgr.block i hi (fun e => by injection e with e; exact hg e)), HSTY.out.rel⟩
      have HBU : Hid (Below w.heap.size w U) := by rw [hU]; exact HBY.out.grown hgr HBY.out.size (fun q hq => by cases hq; exact HG6.out)
      have p1 := HDF.out U HBU.out
      clear hU hgr HC6Y HOY HSTY HBY HCY HDF
      have HLL : Hid (L2.length ≤ 151) := by
        have h1 := HSU.out.rel.len
        rw [List.length_map] at h1
        have h2 := HML2.out
        show _ ≤ _
        omega
      have HALL := Lib.hid (allS_any HSU.out k.fam)
      go_wp2_with fail
      refine HALL.out.mono ?_
      rintro e w3 ⟨⟨A3, c3, P, rfl, hpa, hphl, heq⟩, hb3⟩
      have HS3 := Lib.hid (HSU.out.below hb3)
      have HC3 := Lib.hid (HCU.out.below hb3 HCU.out.lt)
      have HB3 : Hid (Below U.heap.size U w3) := hb3
      have HPA3 := Lib.hid hpa
      have HPH3 := Lib.hid hphl
      have HEQ := Lib.hid heq
      have hpl : P.length = (L2.filter (famP k.fam)).length := by have h := congrArg List.length heq; simpa using h
      have HCN : Hid (cntC M2 k.fam = P.length) := by rw [hpl]; exact cnt_rel HSU.out.rel k.fam
      have hp9 : P.length ≤ 151 := by rw [hpl]; exact Nat.le_trans (List.length_filter_le ..) HLL.out
      have hc3 := hphl.len
      have hc4 := hphl.cap
      unfold maxLen at hc4
      have HP9 := Lib.hid hp9
      clear hpa hphl heq hb3 hpl p1 HALL
      have HA22 := Lib.hid (all22_any HS3.out.ph (by have := HLL.out; omega) most k.fam)
      go_wp2_with (with_reducible show wpList _ _ _ (_ :: _) _ _; refine wpList_load_rib rfl (.tmp 6) rfl g6 rfl most A2 L2.length c2 HC3.out ?_)
      refine HA22.out.mono ?_
      rintro e w4 ⟨⟨A4, c4, rfl, hph4⟩, hb4⟩
      have HS4 := Lib.hid (HS3.out.below hb4)
      have HB4 : Hid (Below U.heap.size U w4) := HB3.out.trans (hb4.mono HB3.out.size)
      have HPA4 := Lib.hid (HPA3.out.below hb4)
      have HSM := Lib.hid (same22_any (HPH3.out.below hb4) hph4 HEQ.out (by omega))
      clear hph4 hb4 HA22 HC3 HPH3 HEQ HS3 HPA3 HB3
      go_wp2_with fail
      refine HSM.out.mono ?_
      rintro e w5 ⟨rfl, hb5⟩
      have HS5 := Lib.hid (HS4.out.below hb5)
      have HB5 : Hid (Below U.heap.size U w5) := HB4.out.trans (hb5.mono HB4.out.size)
      have HPA5 := Lib.hid (HPA4.out.below hb5)
      clear hb5 HSM HS4 HPA4 HB4
      have HCT : Hid (Calls Tryz.prog 9 #[.pointer (some ⟨b2, 0, none⟩), .int .i64 k.fam] w5 fun e w' => e = .returned (.int .i64 (P.length : Nat)) ∧ Below w5.heap.size w5 w') := by
        obtain ⟨bs, hr⟩ := HS5.out.rib
        have h := rcountM_any hr k.fam
        rw [HCN.out] at h
        exact h
      go_wp2_with fail
      refine HCT.out.mono ?_
      rintro e w6 ⟨rfl, hb6⟩
      have HB6 : Hid (Below U.heap.size U w6) := HB5.out.trans (hb6.mono HB5.out.size)
      have HSP := Lib.hid (spoil22_any (HPA5.out.below hb6) HB6.out.size (by have := HP9.out; omega))
      clear hb6 HCT HS5 HPA5 HB5
      go_wp2_with fail
      refine HSP.out.mono ?_
      rintro e w7 ⟨rfl, hb7⟩
      have HB7 : Hid (Below U.heap.size U w7) := HB6.out.trans hb7
      clear hb7 HSP HB6
      go_wp2_with fail
      exact ⟨⟨n + 1, b2, m2, M2, A2, c2, L2, rfl, by go_num, by omega, HML2.out, HSU.out.below HB7.out, HCU.out.below HB7.out HCU.out.lt, HOU.out.below HB7.out, HM2.out, HBU.out.trans (HB7.out.mono HBU.out.size)⟩, by simp [intOf]; omega⟩
    · have hnN : n = N := by omega
      have HLL : Hid (L.length ≤ 151) := by
        have h1 := HST.out.rel.len
        rw [List.length_map] at h1
        have h2 := HML.out
        show _ ≤ _
        omega
      clear HOFF HML HD
      by_cases hx : n = D.length
      · clear hnN hN3 hlt
        subst hx
        as_aux_lemma =>
        go_wp2_with fail
        go_loopw [13] (fun i wr => ∃ f : Nat, i = .int .i64 f ∧ f ≤ 7 ∧ Hid (Below Z.heap.size Z wr)) (fun i _ => 8 - (intOf i).toNat)
        case atStart => exact ⟨0, rfl, by omega, Below.refl _ _⟩
        case round =>
          obtain ⟨wq, hwq⟩ : ∃ x, x = wr := ⟨_, rfl⟩
          subst hwq
          obtain ⟨f, rfl, hf, HBq⟩ := hrel
          by_cases hlf : f ≤ 6
          · as_aux_lemma =>
            have HALL : Hid (∀ W, Below wq.heap.size wq W → Calls Tryz.prog 6 #[.pointer (some ⟨b, 0, none⟩), .int .i64 f] W fun e w' => ASP W b f L e w' ∧ Below W.heap.size W w') := fun W hW => allS_any ((HST.out.below HBq.out).below hW) f
            have HA22 : Hid (∀ W, Below wq.heap.size wq W → Calls Tryz.prog 8 #[.agg (ribAr most A L.length c), .int .i64 f] W fun e w' => (∃ A' c', e = .returned (.slice A' (L.filter (famP f)).length c') ∧ PhL w' A' c' (L.filter (famP f))) ∧ Below W.heap.size W w') := fun W hW => all22_any ((HST.out.below HBq.out).below hW).ph (by have := HLL.out; omega) most f
            have HCq : Hid (∀ W, Below wq.heap.size wq W → CellsAt W g6 (ribAr most A L.length c) 27) := fun W hW => (HC6.out.below HBq.out HC6.out.lt).below hW (HC6.out.below HBq.out HC6.out.lt).lt
            go_upto_region 21 with fail
            refine wp_region_held_drew (S := fun w' => Below wq.heap.size wq w') (by kernel_rfl) (below_drewN (Below.refl _ _) 1) (fun hHeld => ?_)
            refine wpAnyH_take (i := 0) (oi := { dst := some 75, op := Op.move (Operand.tmp 5), type := 23, pos := "law.go:100", after := #[], guard := none }) (v := ?_) rfl (by kernel_rfl) (by kernel_rfl) (by kernel_rfl) (fun _ _ _ h => h) (Or.inl ⟨by rfl, ?_⟩) hHeld ?_
            rotate_left
            · intro w hSw
              clear hSw
              go_simp
              try with_reducible rfl
            try simp only [Act.put, List.setIfInBounds_toArray, List.set_cons_zero, List.set_cons_succ]
            refine wpAnyH_take (i := 1) (oi := { dst := some 76, op := Op.move (Operand.tmp 13), type := 3, pos := "law.go:100", after := #[], guard := none }) (v := ?_) rfl (by kernel_rfl) (by kernel_rfl) (by kernel_rfl) (fun _ _ _ h => h) (Or.inl ⟨by rfl, ?_⟩) hHeld ?_
            rotate_left
            · intro w hSw
              clear hSw
              go_simp
              try with_reducible rfl
            try simp only [Act.put, List.setIfInBounds_toArray, List.set_cons_zero, List.set_cons_succ]
            refine wpAnyH_take (i := 3) (oi := { dst := some 78, op := Op.load 27 (Operand.tmp 6), type := 27, pos := "law.go:100", after := #[], guard := none }) (v := Value.agg (ribAr most A L.length c)) rfl (by kernel_rfl) (by kernel_rfl) (by kernel_rfl) (fun _ _ _ h => h) (yields_rib (by rfl) (.tmp 6) rfl g6 (by rfl) most A L.length c (fun w hSw => HCq.out w hSw)) hHeld ?_
            try simp only [Act.put, List.setIfInBounds_toArray, List.set_cons_zero, List.set_cons_succ]
            refine wpAnyH_take (i := 4) (oi := { dst := some 79, op := Op.move (Operand.tmp 13), type := 3, pos := "law.go:100", after := #[], guard := none }) (v := ?_) rfl (by kernel_rfl) (by kernel_rfl) (by kernel_rfl) (fun _ _ _ h => h) (Or.inl ⟨by rfl, ?_⟩) hHeld ?_
            rotate_left
            · intro w hSw
              clear hSw
              go_simp
              try with_reducible rfl
            try simp only [Act.put, List.setIfInBounds_toArray, List.set_cons_zero, List.set_cons_succ]
            refine wpAnyH_ready (rs := [2]) (by kernel_rfl) (by simp) ?_
            refine AllReadyH.cons (o := { dst := some 77, op := Op.call { callee := Callee.value (Operand.func 6), args := #[Operand.tmp 75, Operand.tmp 76], argTypes := #[23, 3] }, type := 25, pos := "law.go:100", after := #[{ on := 0, ground := Ground.data }, { on := 1, ground := Ground.data }], guard := none }) rfl (fun K hK => ?_) AllReadyH.nil
            go_simp
            refine (HALL.out _ hHeld).mono ?_
            rintro e w3 ⟨⟨A3, c3, P, rfl, hpa, hphl, heq⟩, hb3⟩
            have HPH3 := Lib.hid hphl
            have HEQ := Lib.hid heq
            have HP9 : Hid (P.length ≤ 1000) := by
              have h := congrArg List.length heq
              rw [List.length_map, List.length_map] at h
              have h2 : (L.filter (famP f)).length ≤ L.length := List.length_filter_le ..
              have h3 := HLL.out
              show _ ≤ _
              omega
            clear hpa hphl heq
            refine hK.out _ _ (hHeld.trans (hb3.mono hHeld.size)) (fun hHeld => ?_)
            clear hK K
            try simp only [Act.put, List.setIfInBounds_toArray, List.set_cons_zero, List.set_cons_succ]
            refine wpAnyH_ready (rs := [5]) (by kernel_rfl) (by simp) ?_
            refine AllReadyH.cons (o := { dst := some 80, op := Op.call { callee := Callee.value (Operand.func 8), args := #[Operand.tmp 78, Operand.tmp 79], argTypes := #[27, 3] }, type := 25, pos := "law.go:100", after := #[{ on := 3, ground := Ground.data }, { on := 4, ground := Ground.data }, { on := 2, ground := Ground.chain }], guard := none }) rfl (fun K hK => ?_) AllReadyH.nil
            go_simp
            refine (HA22.out _ hHeld).mono ?_
            rintro e w4 ⟨⟨A4, c4, rfl, hph4⟩, hb4⟩
            have HPH4 := Lib.hid hph4
            have HPH5 := Lib.hid (HPH3.out.below hb4)
            clear hph4
            refine hK.out _ _ (hHeld.trans (hb4.mono hHeld.size)) (fun hHeld => ?_)
            clear hK K
            try simp only [Act.put, List.setIfInBounds_toArray, List.set_cons_zero, List.set_cons_succ]
            refine wpAnyH_ready (rs := [6]) (by kernel_rfl) (by simp) ?_
            refine AllReadyH.cons (o := { dst := some 81, op := Op.call { callee := Callee.value (Operand.func 7), args := #[Operand.tmp 77, Operand.tmp 80], argTypes := #[25, 25] }, type := 4, pos := "law.go:100", after := #[{ on := 2, ground := Ground.data }, { on := 5, ground := Ground.data }, { on := 5, ground := Ground.chain }], guard := none }) rfl (fun K hK => ?_) AllReadyH.nil
            go_simp
            refine (same22_any HPH5.out HPH4.out HEQ.out HP9.out).mono ?_
            rintro e w5 ⟨rfl, hb5⟩
            refine hK.out _ _ (hHeld.trans (hb5.mono hHeld.size)) (fun hHeld => ?_)
            clear hK K
            try simp only [Act.put, List.setIfInBounds_toArray, List.set_cons_zero, List.set_cons_succ]
            refine wpAnyH_take (i := 7) (oi := { dst := some 82, op := Op.unOp UnOp.not 4 (Operand.tmp 81), type := 4, pos := "law.go:100", after := #[{ on := 6, ground := Ground.data }], guard := none }) (v := ?_) rfl (by kernel_rfl) (by kernel_rfl) (by kernel_rfl) (fun _ _ _ h => h) (Or.inl ⟨by rfl, ?_⟩) hHeld ?_
            rotate_left
            · intro w hSw
              clear hSw
              go_simp
              try with_reducible rfl
            try simp only [Act.put, List.setIfInBounds_toArray, List.set_cons_zero, List.set_cons_succ]
            refine wpAnyH_done (by kernel_rfl) ?_ _
            go_upto_region 20 with fail
            refine rb_name fun Z8 hZ8 => ?_
            have HB8 : Hid (Below Z.heap.size Z Z8) := HBq.out.trans (Below.mono (by rw [hZ8]; exact hHeld) HBq.out.size)
            clear hZ8 hHeld
            go_wp2_with fail
            exact ⟨⟨f + 1, by go_num, by omega, HB8.out⟩, by simp [intOf]; omega⟩
          · obtain rfl : f = 7 := by omega
            go_wp2_with fail
            refine (HWK.out _).mono ?_
            rintro e w9 ⟨rfl, hb9⟩
            have HB9 : Hid (Below w.heap.size w w9) := HB.out.trans ((HBq.out.trans (hb9.mono HBq.out.size)).mono HB.out.size)
            clear hb9
            go_wp2_with fail
            go_ret
            exact ⟨by rfl, HB9.out⟩
      · obtain rfl : n = 150 := by omega
        have hlD : 150 < D.length := by omega
        clear hnN hN3 hlt hx
        as_aux_lemma =>
        go_wp2_with fail
        go_loopw [13] (fun i wr => ∃ f : Nat, i = .int .i64 f ∧ f ≤ 7 ∧ Hid (Below Z.heap.size Z wr)) (fun i _ => 8 - (intOf i).toNat)
        case atStart => exact ⟨0, rfl, by omega, Below.refl _ _⟩
        case round =>
          obtain ⟨wq, hwq⟩ : ∃ x, x = wr := ⟨_, rfl⟩
          subst hwq
          obtain ⟨f, rfl, hf, HBq⟩ := hrel
          by_cases hlf : f ≤ 6
          · as_aux_lemma =>
            have HALL : Hid (∀ W, Below wq.heap.size wq W → Calls Tryz.prog 6 #[.pointer (some ⟨b, 0, none⟩), .int .i64 f] W fun e w' => ASP W b f L e w' ∧ Below W.heap.size W w') := fun W hW => allS_any ((HST.out.below HBq.out).below hW) f
            have HA22 : Hid (∀ W, Below wq.heap.size wq W → Calls Tryz.prog 8 #[.agg (ribAr most A L.length c), .int .i64 f] W fun e w' => (∃ A' c', e = .returned (.slice A' (L.filter (famP f)).length c') ∧ PhL w' A' c' (L.filter (famP f))) ∧ Below W.heap.size W w') := fun W hW => all22_any ((HST.out.below HBq.out).below hW).ph (by have := HLL.out; omega) most f
            have HCq : Hid (∀ W, Below wq.heap.size wq W → CellsAt W g6 (ribAr most A L.length c) 27) := fun W hW => (HC6.out.below HBq.out HC6.out.lt).below hW (HC6.out.below HBq.out HC6.out.lt).lt
            go_upto_region 21 with fail
            refine wp_region_held_drew (S := fun w' => Below wq.heap.size wq w') (by kernel_rfl) (below_drewN (Below.refl _ _) 1) (fun hHeld => ?_)
            refine wpAnyH_take (i := 0) (oi := { dst := some 75, op := Op.move (Operand.tmp 5), type := 23, pos := "law.go:100", after := #[], guard := none }) (v := ?_) rfl (by kernel_rfl) (by kernel_rfl) (by kernel_rfl) (fun _ _ _ h => h) (Or.inl ⟨by rfl, ?_⟩) hHeld ?_
            rotate_left
            · intro w hSw
              clear hSw
              go_simp
              try with_reducible rfl
            try simp only [Act.put, List.setIfInBounds_toArray, List.set_cons_zero, List.set_cons_succ]
            refine wpAnyH_take (i := 1) (oi := { dst := some 76, op := Op.move (Operand.tmp 13), type := 3, pos := "law.go:100", after := #[], guard := none }) (v := ?_) rfl (by kernel_rfl) (by kernel_rfl) (by kernel_rfl) (fun _ _ _ h => h) (Or.inl ⟨by rfl, ?_⟩) hHeld ?_
            rotate_left
            · intro w hSw
              clear hSw
              go_simp
              try with_reducible rfl
            try simp only [Act.put, List.setIfInBounds_toArray, List.set_cons_zero, List.set_cons_succ]
            refine wpAnyH_take (i := 3) (oi := { dst := some 78, op := Op.load 27 (Operand.tmp 6), type := 27, pos := "law.go:100", after := #[], guard := none }) (v := Value.agg (ribAr most A L.length c)) rfl (by kernel_rfl) (by kernel_rfl) (by kernel_rfl) (fun _ _ _ h => h) (yields_rib (by rfl) (.tmp 6) rfl g6 (by rfl) most A L.length c (fun w hSw => HCq.out w hSw)) hHeld ?_
            try simp only [Act.put, List.setIfInBounds_toArray, List.set_cons_zero, List.set_cons_succ]
            refine wpAnyH_take (i := 4) (oi := { dst := some 79, op := Op.move (Operand.tmp 13), type := 3, pos := "law.go:100", after := #[], guard := none }) (v := ?_) rfl (by kernel_rfl) (by kernel_rfl) (by kernel_rfl) (fun _ _ _ h => h) (Or.inl ⟨by rfl, ?_⟩) hHeld ?_
            rotate_left
            · intro w hSw
              clear hSw
              go_simp
              try with_reducible rfl
            try simp only [Act.put, List.setIfInBounds_toArray, List.set_cons_zero, List.set_cons_succ]
            refine wpAnyH_ready (rs := [2]) (by kernel_rfl) (by simp) ?_
            refine AllReadyH.cons (o := { dst := some 77, op := Op.call { callee := Callee.value (Operand.func 6), args := #[Operand.tmp 75, Operand.tmp 76], argTypes := #[23, 3] }, type := 25, pos := "law.go:100", after := #[{ on := 0, ground := Ground.data }, { on := 1, ground := Ground.data }], guard := none }) rfl (fun K hK => ?_) AllReadyH.nil
            go_simp
            refine (HALL.out _ hHeld).mono ?_
            rintro e w3 ⟨⟨A3, c3, P, rfl, hpa, hphl, heq⟩, hb3⟩
            have HPH3 := Lib.hid hphl
            have HEQ := Lib.hid heq
            have HP9 : Hid (P.length ≤ 1000) := by
              have h := congrArg List.length heq
              rw [List.length_map, List.length_map] at h
              have h2 : (L.filter (famP f)).length ≤ L.length := List.length_filter_le ..
              have h3 := HLL.out
              show _ ≤ _
              omega
            clear hpa hphl heq
            refine hK.out _ _ (hHeld.trans (hb3.mono hHeld.size)) (fun hHeld => ?_)
            clear hK K
            try simp only [Act.put, List.setIfInBounds_toArray, List.set_cons_zero, List.set_cons_succ]
            refine wpAnyH_ready (rs := [5]) (by kernel_rfl) (by simp) ?_
            refine AllReadyH.cons (o := { dst := some 80, op := Op.call { callee := Callee.value (Operand.func 8), args := #[Operand.tmp 78, Operand.tmp 79], argTypes := #[27, 3] }, type := 25, pos := "law.go:100", after := #[{ on := 3, ground := Ground.data }, { on := 4, ground := Ground.data }, { on := 2, ground := Ground.chain }], guard := none }) rfl (fun K hK => ?_) AllReadyH.nil
            go_simp
            refine (HA22.out _ hHeld).mono ?_
            rintro e w4 ⟨⟨A4, c4, rfl, hph4⟩, hb4⟩
            have HPH4 := Lib.hid hph4
            have HPH5 := Lib.hid (HPH3.out.below hb4)
            clear hph4
            refine hK.out _ _ (hHeld.trans (hb4.mono hHeld.size)) (fun hHeld => ?_)
            clear hK K
            try simp only [Act.put, List.setIfInBounds_toArray, List.set_cons_zero, List.set_cons_succ]
            refine wpAnyH_ready (rs := [6]) (by kernel_rfl) (by simp) ?_
            refine AllReadyH.cons (o := { dst := some 81, op := Op.call { callee := Callee.value (Operand.func 7), args := #[Operand.tmp 77, Operand.tmp 80], argTypes := #[25, 25] }, type := 4, pos := "law.go:100", after := #[{ on := 2, ground := Ground.data }, { on := 5, ground := Ground.data }, { on := 5, ground := Ground.chain }], guard := none }) rfl (fun K hK => ?_) AllReadyH.nil
            go_simp
            refine (same22_any HPH5.out HPH4.out HEQ.out HP9.out).mono ?_
            rintro e w5 ⟨rfl, hb5⟩
            refine hK.out _ _ (hHeld.trans (hb5.mono hHeld.size)) (fun hHeld => ?_)
            clear hK K
            try simp only [Act.put, List.setIfInBounds_toArray, List.set_cons_zero, List.set_cons_succ]
            refine wpAnyH_take (i := 7) (oi := { dst := some 82, op := Op.unOp UnOp.not 4 (Operand.tmp 81), type := 4, pos := "law.go:100", after := #[{ on := 6, ground := Ground.data }], guard := none }) (v := ?_) rfl (by kernel_rfl) (by kernel_rfl) (by kernel_rfl) (fun _ _ _ h => h) (Or.inl ⟨by rfl, ?_⟩) hHeld ?_
            rotate_left
            · intro w hSw
              clear hSw
              go_simp
              try with_reducible rfl
            try simp only [Act.put, List.setIfInBounds_toArray, List.set_cons_zero, List.set_cons_succ]
            refine wpAnyH_done (by kernel_rfl) ?_ _
            go_upto_region 20 with fail
            refine rb_name fun Z8 hZ8 => ?_
            have HB8 : Hid (Below Z.heap.size Z Z8) := HBq.out.trans (Below.mono (by rw [hZ8]; exact hHeld) HBq.out.size)
            clear hZ8 hHeld
            go_wp2_with fail
            exact ⟨⟨f + 1, by go_num, by omega, HB8.out⟩, by simp [intOf]; omega⟩
          · obtain rfl : f = 7 := by omega
            go_wp2_with fail
            refine (HWK.out _).mono ?_
            rintro e w9 ⟨rfl, hb9⟩
            have HB9 : Hid (Below w.heap.size w w9) := HB.out.trans ((HBq.out.trans (hb9.mono HBq.out.size)).mono HB.out.size)
            clear hb9
            go_wp2_with fail
            go_ret
            exact ⟨by rfl, HB9.out⟩
set_option maxHeartbeats 4000000 in
set_option maxRecDepth 100000 in
theorem ribPlays_lifted (os : Os) (started : os.Started) (H : Type) (enc : TypeId × Value → H) :
    ReturnsInHanded {} Tryz.checked os 3 .any (Rows.ribPlaysSpec.pre6 enc Tryz.prog Tryz.f3 Rows.ribPlaysRow.domain false) (Rows.ribPlaysSpec.post enc Tryz.prog Tryz.f3 false true false false) := by
  refine returnsInHanded_of_change_sized (C := Tryz.checked) own started (by kernel_rfl) Tryz.func3
    (ChangeSpec.witness6 (enc := enc) (C := Tryz.checked) false ⟨#[], #[.int .i64 0, .slice none 0 0], []⟩ 8 (by kernel_rfl) (by kernel_rfl) (by kernel_rfl) (by kernel_rfl)) ?_
  intro W base args ds gs before hval0 hW hcnd hsz _
  have hval : ∀ (j : Nat) t v, Tryz.f3.params[j]? = some t → args[j]? = some v → Value.okWide Tryz.prog W .any base t v := hval0
  have hW' := hW
  obtain ⟨p, q, hA0, hV, rfl, hfz, hnd⟩ := hW
  have hA : DataW.TrodAll enc Tryz.prog W 0 (fun _ => true) true Tryz.f3.params.toList args.toList ds p := hA0
  rw [Tryz.params3] at hA hval
  obtain ⟨v0, vs0, d0, ds0, p0, q0, hargs, rfl, rfl, h0, r0⟩ := trodAll_cons hA
  obtain ⟨v1, vs1, d1, ds1, p1, q1, rfl, rfl, rfl, h1, r1⟩ := trodAll_cons r0
  obtain ⟨rfl, rfl, rfl⟩ := trodAll_nil r1
  obtain rfl : args = #[v0, v1] := by cases args; simp_all
  obtain ⟨rfl, rfl⟩ := trodVars_none hV
  obtain ⟨A1, len1, cap1, rfl⟩ := okWide_slice Tryz.underlying22 (hval 1 22 v1 rfl rfl)
  obtain ⟨fu1, hf1⟩ := h1
  obtain ⟨B, k, capk, hv1, hokk⟩ := open_dos (v := .slice A1 len1 cap1) (x := (d1, p1)) hf1 (light_of hsz (j := 1) rfl rfl)
  injection hv1 with ea1 eb1 ec1
  subst ea1
  subst eb1
  subst ec1
  obtain ⟨z, rfl, rfl, rfl, wf_z⟩ := open_int Tryz.underlying3 (hval 0 3 v0 rfl rfl) h0
  refine (plays_walk z A1 k cap1 W hokk).mono fun e W' ⟨he, bel⟩ => ?_
  exact ⟨_, he, law_post laidOut (by kernel_rfl) rfl (by kernel_rfl) Tryz.underlying4 hW' rfl bel⟩

theorem ribPlays_holds : Rows.RibPlaysSaid :=
  OpenClaim.holds_of_wide 3 Tryz.f3 rfl rfl rfl rfl rfl rfl rfl ⟨rfl, rfl, rfl, rfl, rfl⟩ rfl rfl rfl rfl rfl (by kernel_rfl) Tryz.func3 (by kernel_rfl)
    (of_decide_eq_true (by kernel_rfl)) (by unfold Func.isWrapper; first | (rw [if_pos (by decide +kernel)]; kernel_rfl) | (rw [if_neg (by decide +kernel)]; exact ⟨rfl, rfl⟩))
    (fun os started H enc _ => ribPlays_lifted os started H enc)
end Go.Proofs.YtldpcliahfiloaaGreat
