/-
  Several texts in one.
-/
import Derived.Test.YtojiieghjhjoaaaGreatKN35
import Derived.BigRegion
set_option linter.unusedVariables false
set_option linter.unusedSimpArgs false
namespace Go.Proofs.YtojiieghjhjoaaaGreat
open Go.RowKit Go.MapKept Go.Shelf
open Go.Lib hiding intOf

/-- what turning answers -/
def TurnP (w : World) (base b : Nat) (r : AtC × Int) (e : Ending) (w' : World) : Prop := ∃ a' : Atr, e = .returned (.int .i64 r.2) ∧ CellsAt w' b a'.ar 33 ∧ AtO w' base a' ∧ a'.c = r.1 ∧ Below base w w'
/-- the attributes in their box, a configuration and a source in theirs -/
structure TS (w W : World) (base b q : Nat) (g : Cfg) (p : Pth) (a : Atr) : Prop where
  at_ : CellsAt W b a.ar 33
  own : AtO W base a
  bel : Below base w W
  cf : CellsAt W q g.ar 49
  so : CellsAt W (q + 1) p.so 35
  lt : base ≤ b ∧ b < q
section
variable {w W W' : World} {base b q : Nat} {g : Cfg} {p : Pth} {a a' : Atr}
theorem TS.low (h : TS w W base b q g p a) : base ≤ W.heap.size := by have := h.lt; have := h.at_.lt; omega
theorem TS.turn (h : TS w W base b q g p a) (hc : CellsAt W' b a'.ar 33) (ho : AtO W' base a → AtO W' base a') (hg : W.grownBy W' (some b)) : TS w W' base b q g p a' := by
  have h1 := h.lt
  exact ⟨hc, ho (h.own.box hg h.at_), h.bel.grown hg h.low (fun k hk => by injection hk with hk; omega), h.cf.row hg (by omega), h.so.row hg (by omega), h1⟩
theorem TS.below (h : TS w W base b q g p a) (hb : Below W.heap.size W W') : TS w W' base b q g p a := ⟨h.at_.below hb h.at_.lt, h.own.below hb, h.bel.trans (hb.mono h.low), h.cf.below hb h.cf.lt, h.so.below hb h.so.lt, h.lt⟩
theorem TS.start (g : Cfg) (p : Pth) (hc : CellsAt w b a.ar 33) (ho : AtO w base a) (hb : base ≤ b) : TS w ((w.alloc (.cells g.ar 49)).alloc (.cells p.so 35)) base b w.heap.size g p a :=
  ⟨(hc.alloc _).alloc _, ho.below (below2 _ _ _), (below2 w _ _).mono (by have := hc.lt; omega), new1 _ _ _ _, new2b _ _ _ _, hb, hc.lt⟩
/-- another path is laid -/
def Atr.withPath (a : Atr) (A : Option Addr) (segs : List Sg) (c : Nat) : Atr := { a with pA := A, segs := segs, pC := c }
theorem TS.path (h : TS w W base b q g p a) {A : Option Addr} {n c : Nat} {segs : List Sg} (hs : SegsO W base (.slice A n c) segs) (hn : segs.length = n) : TS w (W.setCell ⟨b, 1, none⟩ (.slice A n c)) base b q g p (a.withPath A segs c) := by
  subst hn
  have hg : W.grownBy (W.setCell ⟨b, 1, none⟩ (.slice A segs.length c)) (some b) := grown_setCell W ⟨b, 1, none⟩ _
  exact h.turn (h.at_.setAt 1 _) (fun ho => { path := hs.off hg h.at_ (by decide) (by decide), comms := ho.comms, exts := ho.exts, larges := ho.larges, clus := ho.clus, next := ho.next, mfit := ho.mfit, xfit := ho.xfit, lfit := ho.lfit, kfit := ho.kfit, ofit := ho.ofit, nfit := ho.nfit }) hg
def Atr.noPref (a : Atr) : Atr := { a with hasPref := false, pref := 0 }
def Atr.noMed (a : Atr) : Atr := { a with hasMed := false, med := 0 }
theorem TS.noPref (h : TS w W base b q g p a) : TS w ((W.setCell ⟨b, 5, none⟩ (.bool false)).setCell ⟨b, 6, none⟩ (.int .u32 0)) base b q g p a.noPref :=
  h.turn ((h.at_.setAt 5 _).setAt 6 _) (fun ho => { path := ho.path, comms := ho.comms, exts := ho.exts, larges := ho.larges, clus := ho.clus, next := ho.next, mfit := ho.mfit, xfit := ho.xfit, lfit := ho.lfit, kfit := ho.kfit, ofit := ho.ofit, nfit := ⟨ho.nfit.1, by show (0 : Nat) < _; decide, ho.nfit.2.2⟩ }) (grown_trans (grown_setCell W _ _) (grown_setCell _ ⟨b, 6, none⟩ _))
theorem TS.noMed (h : TS w W base b q g p a) : TS w ((W.setCell ⟨b, 3, none⟩ (.bool false)).setCell ⟨b, 4, none⟩ (.int .u32 0)) base b q g p a.noMed :=
  h.turn ((h.at_.setAt 3 _).setAt 4 _) (fun ho => { path := ho.path, comms := ho.comms, exts := ho.exts, larges := ho.larges, clus := ho.clus, next := ho.next, mfit := ho.mfit, xfit := ho.xfit, lfit := ho.lfit, kfit := ho.kfit, ofit := ho.ofit, nfit := ⟨by show (0 : Nat) < _; decide, ho.nfit.2⟩ }) (grown_trans (grown_setCell W _ _) (grown_setCell _ ⟨b, 4, none⟩ _))
def Atr.withOrig (a : Atr) (n : Nat) : Atr := { a with hasOrig := true, orig := n }
theorem TS.withOrig (h : TS w W base b q g p a) (n : Nat) (hn : n < 4294967296) : TS w ((W.setCell ⟨b, 13, none⟩ (.bool true)).setCell ⟨b, 14, none⟩ (.int .u32 (n : Nat))) base b q g p (a.withOrig n) :=
  h.turn ((h.at_.setAt 13 _).setAt 14 _) (fun ho => { path := ho.path, comms := ho.comms, exts := ho.exts, larges := ho.larges, clus := ho.clus, next := ho.next, mfit := ho.mfit, xfit := ho.xfit, lfit := ho.lfit, kfit := ho.kfit, ofit := ho.ofit, nfit := ⟨ho.nfit.1, ho.nfit.2.1, ho.nfit.2.2.1, ho.nfit.2.2.2.1, hn⟩ }) (grown_trans (grown_setCell W _ _) (grown_setCell _ ⟨b, 14, none⟩ _))
theorem so_cells {W : World} {k : Nat} (h : CellsAt W k p.so 35) : W.cell? ⟨k, 0, none⟩ = some (.int .i64 p.kind) ∧ W.cell? ⟨k, 3, none⟩ = some (.int .u32 (p.sid : Nat)) := ⟨(h.c 0).trans rfl, (h.c 3).trans rfl⟩
theorem bare_sub {l : List (Int × List Nat)} {s : Int × List Nat} (h : s ∈ bareF l) : s ∈ l := (List.mem_filter.1 h).1
end
theorem path_sz {c : AtC} (h : AtrSz c) {l : List Sg} (e : l.map Sg.c = c.path) : (∀ s ∈ l, s.as_.length * 4 ≤ 140737488351232) ∧ l.length * 32 ≤ 140737488351232 := by
  refine ⟨fun s hs => ?_, ?_⟩
  · have h1 := h.s s.c (by rw [← e]; exact List.mem_map_of_mem hs)
    have h2 : s.c.2.length = s.as_.length := rfl
    omega
  · have h1 := h.p
    rw [← e, List.length_map] at h1
    omega
theorem bare_sz {l segs : List Sg} (h : segs.map Sg.c = bareF (l.map Sg.c)) (h1 : ∀ s ∈ l, s.as_.length * 4 ≤ 140737488351232) (h2 : l.length * 32 ≤ 140737488351232) : (∀ s ∈ segs, s.as_.length * 4 ≤ 140737488351232) ∧ segs.length * 32 ≤ 140737488351232 := by
  refine ⟨fun s hs => ?_, ?_⟩
  · have h3 : s.c ∈ bareF (l.map Sg.c) := by rw [← h]; exact List.mem_map_of_mem hs
    obtain ⟨t, ht, e⟩ := List.mem_map.1 (bare_sub h3)
    have h4 := h1 t ht
    have e2 : t.as_ = s.as_ := congrArg Prod.snd e
    rw [← e2]
    exact h4
  · have h3 : segs.length = (bareF (l.map Sg.c)).length := by rw [← h, List.length_map]
    have h4 : (bareF (l.map Sg.c)).length ≤ (l.map Sg.c).length := List.length_filter_le _ _
    rw [List.length_map] at h4
    omega

set_option maxRecDepth 100000 in
set_option maxHeartbeats 16000000 in
theorem outside_any (g : Cfg) (hg : g.Ok) (p : Pth) (a : Atr) (b base : Nat) (w : World) (hc : CellsAt w b a.ar 33) (ho : AtO w base a) (hb : base ≤ b) (hz1 : ∀ s ∈ a.segs, s.as_.length * 4 ≤ 140737488351232) (hz2 : a.segs.length * 32 ≤ 140737488351232) :
    Calls Tryz.prog 77 #[.agg g.ar, .agg p.so, .pointer (some ⟨b, 0, none⟩)] w (TurnP w base b (outF g (p.kind == 1) a.c)) := by
  obtain ⟨POST, hP⟩ : ∃ P, P = TurnP w base b (outF g (p.kind == 1) a.c) := ⟨_, rfl⟩
  rw [← hP]
  have HRET : Hid (∀ (E : Int) (r : AtC) (q : Nat) (W : World) (a' : Atr), outF g (p.kind == 1) a.c = (r, E) → a'.c = r → TS w W base b q g p a' → POST (.returned (.int .i64 E)) W) := fun E r q W a' e1 e2 h => by
    rw [hP, e1]
    exact ⟨a', rfl, h.at_, h.own, e2, h.bel⟩
  have HZ1 := Lib.hid hz1
  have HZ2 := Lib.hid hz2
  have HCF := Lib.hid hg
  have hst := TS.start g p hc ho hb
  clear hc ho hz1 hz2 hP hg
  go_enter Tryz.func77, Tryz.ntmps77
  go_upto_region 1 with fail
  refine rb_name fun V hV => ?_
  obtain ⟨q, hq⟩ : ∃ q, q = w.heap.size := ⟨_, rfl⟩
  have HT0 : Hid (TS w V base b q g p a) := by rw [hV, hq]; exact hst
  rw [← hq]
  clear hV hst hq
  obtain ⟨g0, g1, g2, g4, g5⟩ := cfg_cells HT0.out.cf
  obtain ⟨K, hK⟩ : ∃ K : Nat, K = (if 0 < g.confed then g.confed else g.as_) := ⟨_, rfl⟩
  have HK := Lib.hid hK
  have HKF : Hid (K < 4294967296) := by
    show _ < _
    rw [hK]
    split
    · exact HCF.out.confed
    · exact HCF.out.as_
  clear hK
  go_upto_if 13 with fail
  go_cut [7] (fun v wx => v = .int .u32 (K : Nat) ∧ wx = V)
  case first =>
    by_cases h : 0 < g.confed
    · have d1 : decide ((0 : Int) < (g.confed : Int)) = true := decide_eq_true (by omega)
      have d2 : (0 : Int) < (g.confed : Int) := by omega
      obtain rfl : K = g.confed := HK.out.trans (if_pos h)
      clear h
      go_wp2_with fail
      go_meet
      exact ⟨rfl, rfl⟩
    · have d1 : decide ((0 : Int) < (g.confed : Int)) = false := decide_eq_false (by omega)
      have d2 : ¬ (0 : Int) < (g.confed : Int) := by omega
      obtain rfl : K = g.as_ := HK.out.trans (if_neg h)
      clear h
      go_wp2_with fail
      go_meet
      exact ⟨rfl, rfl⟩
  case rest =>
  obtain ⟨rfl, hwc⟩ := hcut
  subst hwc
  obtain ⟨V, hwc⟩ : ∃ x, x = wc := ⟨_, rfl⟩
  subst hwc
  clear g0 g1 g2 g4 g5
  go_wp2_with fail
  refine (alone_any a b _ HT0.out.at_).mono ?_
  rintro e w2 ⟨rfl, hc2, hg2⟩
  have HT1 : Hid (TS w w2 base b q g p a.alone) := HT0.out.turn hc2 AtO.alone hg2
  clear hc2 hg2 HT0
  obtain ⟨c0, c1, c2, c3, c4, c5, c6, c7, c8, c9, c10, c11, c12, c13, c14, c15⟩ := atr_cells HT1.out.at_
  have f5 := HT1.out.at_.unfrozen 5
  have f6 := HT1.out.at_.unfrozen 6
  go_upto_region 6 with fail
  refine rb_name fun V2 hV2 => ?_
  have HT2 : Hid (TS w V2 base b q g p a.alone.noPref) := by rw [hV2]; exact HT1.out.noPref
  clear hV2 c0 c1 c2 c3 c4 c5 c6 c7 c8 c9 c10 c11 c12 c13 c14 c15 f5 f6 HT1
  obtain ⟨q0, q3⟩ := so_cells HT2.out.so
  obtain ⟨L, hL⟩ : ∃ L, L = (p.kind == 1) := ⟨_, rfl⟩
  obtain ⟨a3, ha3⟩ : ∃ a3, a3 = if L = true then a.alone.noPref else a.alone.noPref.noMed := ⟨_, rfl⟩
  have HL := Lib.hid hL
  have HA3 := Lib.hid ha3
  clear hL ha3
  go_upto_if 26 with fail
  go_cut [7] (fun v wx => v = .int .u32 (K : Nat) ∧ Hid (TS w wx base b q g p a3))
  case first =>
    cases L with
    | true =>
      have k1 : (p.kind == 1) = true := HL.out.symm
      have k2 : (p.kind != 1) = false := by rw [bne, k1]; rfl
      obtain rfl : a3 = a.alone.noPref := HA3.out
      go_wp2_with fail
      go_meet
      exact ⟨rfl, HT2.out⟩
    | false =>
      have k1 : (p.kind == 1) = false := HL.out.symm
      have k2 : (p.kind != 1) = true := by rw [bne, k1]; rfl
      obtain rfl : a3 = a.alone.noPref.noMed := HA3.out
      obtain ⟨c0, c1, c2, c3, c4, c5, c6, c7, c8, c9, c10, c11, c12, c13, c14, c15⟩ := atr_cells HT2.out.at_
      have f3 := HT2.out.at_.unfrozen 3
      have f4 := HT2.out.at_.unfrozen 4
      have HT3 := Lib.hid HT2.out.noMed
      go_wp2_with fail
      go_meet
      exact ⟨rfl, HT3.out⟩
  case rest =>
  obtain ⟨rfl, HT3⟩ := hcut
  obtain ⟨V3, hwc⟩ : ∃ x, x = wc := ⟨_, rfl⟩
  subst hwc
  have HSG : Hid (a3.segs = a.segs) := by
    show _ = _
    rw [HA3.out]
    split <;> rfl
  clear HT2 q0 q3
  obtain ⟨c0, c1, c2, c3, c4, c5, c6, c7, c8, c9, c10, c11, c12, c13, c14, c15⟩ := atr_cells HT3.out.at_
  have HBA : Hid (∀ W, SegsOk W a3.pA a3.pC a3.segs → Calls Tryz.prog 29 #[.slice a3.pA a3.segs.length a3.pC] W (SegsP W (bareF (a3.segs.map Sg.c)))) := fun W h => bare_any a3.pA a3.pC a3.segs W h (by rw [HSG.out]; exact HZ1.out) (by rw [HSG.out]; exact HZ2.out)
  go_wp2_with fail
  refine (HBA.out _ HT3.out.own.ok.path).mono ?_
  rintro e w4 ⟨A4, n4, k4, segs4, rfl, hn4, hm4, hs4, hb4⟩
  subst hn4
  have HT4 : Hid (TS w w4 base b q g p a3) := HT3.out.below hb4
  have HM4 : Hid (segs4.map Sg.c = bareF (a.segs.map Sg.c)) := by show _ = _; rw [hm4, HSG.out]
  have HS4 := Lib.hid hs4
  obtain ⟨hy1, hy2⟩ := bare_sz HM4.out HZ1.out HZ2.out
  have HPR := Lib.hid (prep_any A4 k4 segs4 K false w4 hs4.ok hy1 hy2 HKF.out)
  clear hm4 hs4 hb4 hy1 hy2 HBA HT3 c0 c1 c2 c3 c4 c5 c6 c7 c8 c9 c10 c11 c12 c13 c14 c15
  go_wp2_with fail
  refine HPR.out.mono ?_
  rintro e w5 ⟨A5, n5, k5, segs5, rfl, hn5, hm5, hs5, hb5⟩
  subst hn5
  have HT5 : Hid (TS w w5 base b q g p a3) := HT4.out.below hb5
  have HT6 : Hid (TS w (w5.setCell ⟨b, 1, none⟩ (.slice A5 segs5.length k5)) base b q g p (a3.withPath A5 segs5 k5)) := HT5.out.path (hs5.lower HT4.out.low) rfl
  have HE : Hid (outF g (p.kind == 1) a.c = ((a3.withPath A5 segs5 k5).c, (prepF (segs4.map Sg.c) K false).2)) := by
    show _ = _
    have e1 : (a3.withPath A5 segs5 k5).c = { a3.c with path := (prepF (segs4.map Sg.c) K false).1 } := by
      rw [← hm5]
      rfl
    rw [e1, HM4.out, HK.out, HA3.out, ← HL.out]
    unfold outF
    cases L <;> rfl
  clear hm5 hs5 hb5 HPR
  obtain ⟨c0, c1, c2, c3, c4, c5, c6, c7, c8, c9, c10, c11, c12, c13, c14, c15⟩ := atr_cells HT5.out.at_
  have f1 := HT5.out.at_.unfrozen 1
  go_wp2_with fail
  exact HRET.out _ _ q _ _ HE.out rfl HT6.out
set_option maxRecDepth 100000 in
set_option maxHeartbeats 16000000 in
theorem member_any (g : Cfg) (hg : g.Ok) (p : Pth) (a : Atr) (b base : Nat) (w : World) (hc : CellsAt w b a.ar 33) (ho : AtO w base a) (hb : base ≤ b) (hz1 : ∀ s ∈ a.segs, s.as_.length * 4 ≤ 140737488351232) (hz2 : a.segs.length * 32 ≤ 140737488351232) :
    Calls Tryz.prog 78 #[.agg g.ar, .agg p.so, .pointer (some ⟨b, 0, none⟩)] w (TurnP w base b (memF g a.c)) := by
  obtain ⟨POST, hP⟩ : ∃ P, P = TurnP w base b (memF g a.c) := ⟨_, rfl⟩
  rw [← hP]
  have HRET : Hid (∀ (E : Int) (r : AtC) (q : Nat) (W : World) (a' : Atr), memF g a.c = (r, E) → a'.c = r → TS w W base b q g p a' → POST (.returned (.int .i64 E)) W) := fun E r q W a' e1 e2 h => by
    rw [hP, e1]
    exact ⟨a', rfl, h.at_, h.own, e2, h.bel⟩
  have HZ1 := Lib.hid hz1
  have HZ2 := Lib.hid hz2
  have HCF := Lib.hid hg
  have hst := TS.start g p hc ho hb
  clear hc ho hz1 hz2 hP hg
  go_enter Tryz.func78, Tryz.ntmps78
  go_upto_region 1 with fail
  refine rb_name fun V hV => ?_
  obtain ⟨q, hq⟩ : ∃ q, q = w.heap.size := ⟨_, rfl⟩
  have HT0 : Hid (TS w V base b q g p a) := by rw [hV, hq]; exact hst
  rw [← hq]
  clear hV hst hq
  have HKF := Lib.hid HCF.out.as_
  go_wp2_with fail
  refine (alone_any a b _ HT0.out.at_).mono ?_
  rintro e w2 ⟨rfl, hc2, hg2⟩
  have HT1 : Hid (TS w w2 base b q g p a.alone) := HT0.out.turn hc2 AtO.alone hg2
  clear hc2 hg2 HT0
  go_wp2_with fail
  refine (preferred_any a.alone b _ HT1.out.at_).mono ?_
  rintro e w3 ⟨rfl, hc2, hg2⟩
  have HT2 : Hid (TS w w3 base b q g p a.alone.prefd) := HT1.out.turn hc2 AtO.prefd hg2
  clear hc2 hg2 HT1
  have HPA : Hid (∀ W, SegsOk W a.pA a.pC a.segs → Calls Tryz.prog 100 #[.slice a.pA a.segs.length a.pC, .int .u32 (g.as_ : Nat), .bool true] W (PrepP W (prepF (a.segs.map Sg.c) g.as_ true))) := fun W h => prep_any a.pA a.pC a.segs g.as_ true W h HZ1.out HZ2.out HKF.out
  obtain ⟨a2, ha2⟩ : ∃ a2, a2 = a.alone.prefd := ⟨_, rfl⟩
  have HA2 := Lib.hid ha2
  have HP2 : Hid (a2.pA = a.pA ∧ a2.segs = a.segs ∧ a2.pC = a.pC) := by show _ ∧ _; rw [ha2]; exact ⟨rfl, rfl, rfl⟩
  rw [← ha2] at HT2
  clear ha2
  go_upto_region 4 with fail
  have HTD : Hid (TS w w3.drew base b q g p a2) := HT2.out.below (below_drewN (Below.refl _ _) 1)
  refine wp_region_U (fun i => i == 13) (fun w' => TS w w' base b q g p a2 ∧ True) (by kernel_rfl) (⟨HTD.out, trivial⟩) (fun hHeld => ?_)
  refine wpAnyU_takeP (i := 0) (oi := { dst := some 13, op := Op.move (Operand.tmp 2), type := 86, pos := "export.go:91", after := #[], guard := none }) (v := ?_) rfl (by rfl) (by kernel_rfl) (by kernel_rfl) (by kernel_rfl) (fun _ _ _ h => h) (Or.inl ⟨by rfl, ?_⟩) hHeld ?_
  rotate_left
  · intro w hSw
    clear hSw
    go_simp
    try with_reducible rfl
  try simp only [Act.put, List.setIfInBounds_toArray, List.set_cons_zero, List.set_cons_succ]
  refine wpAnyU_takeP (i := 1) (oi := { dst := some 14, op := Op.move (Operand.tmp 2), type := 86, pos := "export.go:91", after := #[], guard := none }) (v := ?_) rfl (by rfl) (by kernel_rfl) (by kernel_rfl) (by kernel_rfl) (fun _ _ _ h => h) (Or.inl ⟨by rfl, ?_⟩) hHeld ?_
  rotate_left
  · intro w hSw
    clear hSw
    go_simp
    try with_reducible rfl
  try simp only [Act.put, List.setIfInBounds_toArray, List.set_cons_zero, List.set_cons_succ]
  refine wpAnyU_takeP (i := 2) (oi := { dst := some 15, op := Op.nilCheck (Operand.tmp 14), type := 0, pos := "export.go:91", after := #[{ on := 1, ground := Ground.data }], guard := none }) (v := ?_) rfl (by rfl) (by kernel_rfl) (by kernel_rfl) (by kernel_rfl) (fun _ _ _ h => h) (Or.inl ⟨by rfl, ?_⟩) hHeld ?_
  rotate_left
  · intro w hSw
    clear hSw
    go_simp
    try with_reducible rfl
  try simp only [Act.put, List.setIfInBounds_toArray, List.set_cons_zero, List.set_cons_succ]
  refine wpAnyU_takeP (i := 3) (oi := { dst := some 16, op := Op.fieldAddr 33 (Operand.tmp 15) 1, type := 0, pos := "export.go:91", after := #[{ on := 2, ground := Ground.data }], guard := none }) (v := ?_) rfl (by rfl) (by kernel_rfl) (by kernel_rfl) (by kernel_rfl) (fun _ _ _ h => h) (Or.inl ⟨by rfl, ?_⟩) hHeld ?_
  rotate_left
  · intro w hSw
    clear hSw
    go_simp
    try with_reducible rfl
  try simp only [Act.put, List.setIfInBounds_toArray, List.set_cons_zero, List.set_cons_succ]
  refine wpAnyU_take (i := 4) (oi := { dst := some 17, op := Op.load 28 (Operand.tmp 16), type := 28, pos := "export.go:91", after := #[{ on := 3, ground := Ground.data }], guard := none }) (v := ?_) rfl (by rfl) (by kernel_rfl) (by kernel_rfl) (by kernel_rfl) (by kernel_rfl) (fun _ _ _ h => h) (Or.inl ⟨by rfl, ?_⟩) hHeld ?_
  rotate_left
  · intro w hSw
    obtain ⟨c0, c1, c2, c3, c4, c5, c6, c7, c8, c9, c10, c11, c12, c13, c14, c15⟩ := atr_cells hSw.1.at_
    rw [HP2.out.1, HP2.out.2.1, HP2.out.2.2] at c1
    obtain ⟨g0, g1, g2, g4, g5⟩ := cfg_cells hSw.1.cf
    go_simp
    try with_reducible rfl
  try simp only [Act.put, List.setIfInBounds_toArray, List.set_cons_zero, List.set_cons_succ]
  refine wpAnyU_takeP (i := 5) (oi := { dst := some 18, op := Op.fieldAddr 49 (Operand.tmp 3) 0, type := 0, pos := "export.go:91", after := #[], guard := none }) (v := ?_) rfl (by rfl) (by kernel_rfl) (by kernel_rfl) (by kernel_rfl) (fun _ _ _ h => h) (Or.inl ⟨by rfl, ?_⟩) hHeld ?_
  rotate_left
  · intro w hSw
    clear hSw
    go_simp
    try with_reducible rfl
  try simp only [Act.put, List.setIfInBounds_toArray, List.set_cons_zero, List.set_cons_succ]
  refine wpAnyU_take (i := 6) (oi := { dst := some 19, op := Op.load 22 (Operand.tmp 18), type := 22, pos := "export.go:91", after := #[{ on := 5, ground := Ground.data }], guard := none }) (v := ?_) rfl (by rfl) (by kernel_rfl) (by kernel_rfl) (by kernel_rfl) (by kernel_rfl) (fun _ _ _ h => h) (Or.inl ⟨by rfl, ?_⟩) hHeld ?_
  rotate_left
  · intro w hSw
    obtain ⟨c0, c1, c2, c3, c4, c5, c6, c7, c8, c9, c10, c11, c12, c13, c14, c15⟩ := atr_cells hSw.1.at_
    rw [HP2.out.1, HP2.out.2.1, HP2.out.2.2] at c1
    obtain ⟨g0, g1, g2, g4, g5⟩ := cfg_cells hSw.1.cf
    go_simp
    try with_reducible rfl
  try simp only [Act.put, List.setIfInBounds_toArray, List.set_cons_zero, List.set_cons_succ]
  refine wpAnyU_step (i := 7) (o := { dst := some 20, op := Op.call { callee := Callee.value (Operand.func 100), args := #[Operand.tmp 17, Operand.tmp 19, Operand.const (Value.bool true)], argTypes := #[28, 22, 4] }, type := 88, pos := "export.go:91", after := #[{ on := 4, ground := Ground.data }, { on := 6, ground := Ground.data }], guard := none }) (by kernel_rfl) rfl (by rfl) (fun K hK => ?_)
  go_simp
  refine (HPA.out _ (by have h := hHeld.1.own.ok.path; rwa [HP2.out.1, HP2.out.2.1, HP2.out.2.2] at h)).mono ?_
  rintro e w5 ⟨A5, n5, k5, segs5, rfl, hn5, hm5, hs5, hb5⟩
  subst hn5
  have HT5 : Hid (TS w w5 base b q g p a2) := hHeld.1.below hb5
  have HT6 : Hid (TS w (w5.setCell ⟨b, 1, none⟩ (.slice A5 segs5.length k5)) base b q g p (a2.withPath A5 segs5 k5)) := HT5.out.path (hs5.lower hHeld.1.low) rfl
  have HE : Hid (memF g a.c = ((a2.withPath A5 segs5 k5).c, (prepF (a.segs.map Sg.c) g.as_ true).2)) := by
    show _ = _
    have e1 : (a2.withPath A5 segs5 k5).c = { a2.c with path := (prepF (a.segs.map Sg.c) g.as_ true).1 } := by
      rw [← hm5]
      rfl
    rw [e1, HA2.out]
    rfl
  obtain ⟨c0, c1, c2, c3, c4, c5, c6, c7, c8, c9, c10, c11, c12, c13, c14, c15⟩ := atr_cells HT5.out.at_
  have f1 := HT5.out.at_.unfrozen 1
  clear hm5 hs5 hb5 hHeld
  refine hK.out _ _ (⟨HT5.out, trivial⟩) (fun hHeld => ?_)
  clear hK K
  try simp only [Act.put, List.setIfInBounds_toArray, List.set_cons_zero, List.set_cons_succ]
  refine wpAnyU_takeP (i := 8) (oi := { dst := some 12, op := Op.move (Operand.tmp 20), type := 88, pos := "export.go:91", after := #[{ on := 7, ground := Ground.data }], guard := none }) (v := ?_) rfl (by rfl) (by kernel_rfl) (by kernel_rfl) (by kernel_rfl) (fun _ _ _ h => h) (Or.inl ⟨by rfl, ?_⟩) hHeld ?_
  rotate_left
  · intro w hSw
    clear hSw
    go_simp
    try with_reducible rfl
  try simp only [Act.put, List.setIfInBounds_toArray, List.set_cons_zero, List.set_cons_succ]
  refine wpAnyU_takeP (i := 9) (oi := { dst := some 21, op := Op.extract (Operand.tmp 12) 0, type := 28, pos := "export.go:91", after := #[{ on := 8, ground := Ground.data }], guard := none }) (v := ?_) rfl (by rfl) (by kernel_rfl) (by kernel_rfl) (by kernel_rfl) (fun _ _ _ h => h) (Or.inl ⟨by rfl, ?_⟩) hHeld ?_
  rotate_left
  · intro w hSw
    clear hSw
    go_simp
    try with_reducible rfl
  try simp only [Act.put, List.setIfInBounds_toArray, List.set_cons_zero, List.set_cons_succ]
  refine wpAnyU_takeP (i := 10) (oi := { dst := some 22, op := Op.extract (Operand.tmp 12) 1, type := 54, pos := "export.go:91", after := #[{ on := 8, ground := Ground.data }, { on := 13, ground := Ground.gcOnly Departure.lateStores }], guard := none }) (v := ?_) rfl (by rfl) (by kernel_rfl) (by kernel_rfl) (by kernel_rfl) (fun _ _ _ h => h) (Or.inl ⟨by rfl, ?_⟩) hHeld ?_
  rotate_left
  · intro w hSw
    clear hSw
    go_simp
    try with_reducible rfl
  try simp only [Act.put, List.setIfInBounds_toArray, List.set_cons_zero, List.set_cons_succ]
  refine wpAnyU_takeP (i := 11) (oi := { dst := some 23, op := Op.nilCheck (Operand.tmp 13), type := 0, pos := "export.go:91", after := #[{ on := 0, ground := Ground.data }, { on := 0, ground := Ground.phase }, { on := 1, ground := Ground.phase }, { on := 2, ground := Ground.phase }, { on := 3, ground := Ground.phase }, { on := 4, ground := Ground.phase }, { on := 5, ground := Ground.phase }, { on := 6, ground := Ground.phase }, { on := 7, ground := Ground.phase }, { on := 8, ground := Ground.phase }, { on := 9, ground := Ground.phase }, { on := 10, ground := Ground.textOnly Departure.lateStores }], guard := none }) (v := ?_) rfl (by rfl) (by kernel_rfl) (by kernel_rfl) (by kernel_rfl) (fun _ _ _ h => h) (Or.inl ⟨by rfl, ?_⟩) hHeld ?_
  rotate_left
  · intro w hSw
    clear hSw
    go_simp
    try with_reducible rfl
  try simp only [Act.put, List.setIfInBounds_toArray, List.set_cons_zero, List.set_cons_succ]
  refine wpAnyU_takeP (i := 12) (oi := { dst := some 24, op := Op.fieldAddr 33 (Operand.tmp 23) 1, type := 0, pos := "export.go:91", after := #[{ on := 11, ground := Ground.data }, { on := 0, ground := Ground.phase }, { on := 1, ground := Ground.phase }, { on := 2, ground := Ground.phase }, { on := 3, ground := Ground.phase }, { on := 4, ground := Ground.phase }, { on := 5, ground := Ground.phase }, { on := 6, ground := Ground.phase }, { on := 7, ground := Ground.phase }, { on := 8, ground := Ground.phase }, { on := 9, ground := Ground.phase }, { on := 10, ground := Ground.textOnly Departure.lateStores }], guard := none }) (v := ?_) rfl (by rfl) (by kernel_rfl) (by kernel_rfl) (by kernel_rfl) (fun _ _ _ h => h) (Or.inl ⟨by rfl, ?_⟩) hHeld ?_
  rotate_left
  · intro w hSw
    clear hSw
    go_simp
    try with_reducible rfl
  try simp only [Act.put, List.setIfInBounds_toArray, List.set_cons_zero, List.set_cons_succ]
  refine wpAnyU_last (i := 13) (o := { dst := none, op := Op.store 28 (Operand.tmp 24) (Operand.tmp 21), type := 0, pos := "export.go:91", after := #[{ on := 12, ground := Ground.data }, { on := 9, ground := Ground.data }, { on := 7, ground := Ground.chain }, { on := 0, ground := Ground.phase }, { on := 1, ground := Ground.phase }, { on := 2, ground := Ground.phase }, { on := 3, ground := Ground.phase }, { on := 4, ground := Ground.phase }, { on := 5, ground := Ground.phase }, { on := 6, ground := Ground.phase }, { on := 7, ground := Ground.phase }, { on := 8, ground := Ground.phase }, { on := 9, ground := Ground.phase }, { on := 10, ground := Ground.textOnly Departure.lateStores }], guard := none }) (by kernel_rfl) rfl (by rfl) (fun K hK => ?_)
  go_simp
  skip
  refine hK.out _ _ ?_
  clear hK K
  try simp only [Act.put, List.setIfInBounds_toArray, List.set_cons_zero, List.set_cons_succ]
  refine wpAnyU_takeP (i := 14) (oi := { dst := some 7, op := Op.assign (Operand.tmp 22), type := 54, pos := "export.go:91", after := #[{ on := 10, ground := Ground.data }, { on := 13, ground := Ground.chain }, { on := 0, ground := Ground.phase }, { on := 1, ground := Ground.phase }, { on := 2, ground := Ground.phase }, { on := 3, ground := Ground.phase }, { on := 4, ground := Ground.phase }, { on := 5, ground := Ground.phase }, { on := 6, ground := Ground.phase }, { on := 7, ground := Ground.phase }, { on := 8, ground := Ground.phase }, { on := 9, ground := Ground.phase }, { on := 10, ground := Ground.phase }, { on := 11, ground := Ground.phase }, { on := 12, ground := Ground.phase }, { on := 13, ground := Ground.phase }], guard := none }) (v := ?_) rfl (by rfl) (by kernel_rfl) (by kernel_rfl) (by kernel_rfl) (fun _ _ _ h => h) (Or.inl ⟨by rfl, ?_⟩) trivial ?_
  rotate_left
  · intro w hSw
    clear hSw
    go_simp
    try with_reducible rfl
  try simp only [Act.put, List.setIfInBounds_toArray, List.set_cons_zero, List.set_cons_succ]
  refine wpAnyU_done (by kernel_rfl) ?_ _
  go_wp2_with fail
  exact HRET.out _ _ q _ _ HE.out rfl HT6.out
/-- the clusters lie in a block of their own -/
def ClAp (a : Atr) : Prop := ∀ k, (Value.slice a.kA a.clus.length a.kC).ownBlock = some k → (Value.slice a.mA a.comms.length a.mC).ownBlock ≠ some k ∧ ∀ s ∈ a.segs, (Value.slice s.A s.as_.length s.cap).ownBlock ≠ some k
theorem cells_apart {W : World} {k base C n : Nat} {cs : Array Value} {T e : TypeId} {v : Value} {xs : List Value} (h : CellsAt W k cs T) (ho : OwnM W base e C v n xs) (hT : e ≠ T) : some k ≠ v.ownBlock := fun e1 => by
  rcases ho.2 with ⟨rfl, _⟩ | ⟨q, cap, cur, fr, rfl, _, hq, _⟩
  · simp [Value.ownBlock] at e1
  · simp [Value.ownBlock] at e1
    subst e1
    rw [show W.heap[k]? = _ from h] at hq
    injection hq with hq
    injection hq with _ hq2
    exact hT hq2.symm
def Atr.withClus (a : Atr) (A : Option Addr) (l : List Nat) (c : Nat) : Atr := { a with kA := A, clus := l, kC := c }
theorem TS.clus {w W W' : World} {base b q : Nat} {g : Cfg} {p : Pth} {a : Atr} (h : TS w W base b q g p a) (hap : ClAp a) (hg : W.grownBy W' (Value.slice a.kA a.clus.length a.kC).ownBlock) {A : Option Addr} {n c x : Nat} (ho : OwnL W' base 22 1 u1 (.slice A n c) (x :: a.clus)) (hn : n = a.clus.length + 1) (hx : x < 4294967296) :
    TS w (W'.setCell ⟨b, 15, none⟩ (.slice A n c)) base b q g p (a.withClus A (x :: a.clus) c) := by
  subst hn
  have hcl := h.own.clus
  have h1 : CellsAt W' b a.ar 33 := h.at_.own hg (cells_apart h.at_ hcl (by decide))
  have hs : W'.grownBy (W'.setCell ⟨b, 15, none⟩ (.slice A (a.clus.length + 1) c)) (some b) := grown_setCell W' ⟨b, 15, none⟩ _
  have hlt := h.lt
  have hpath : SegsO W' base (.slice a.pA a.segs.length a.pC) a.segs := ⟨OwnM.grown h.own.path.own hg (own_ne h.own.path.own hcl (by decide)), fun s hs => ⟨OwnM.grown (h.own.path.as_ s hs).1 hg (fun k hk e => (hap k e.symm).2 s hs hk), (h.own.path.as_ s hs).2⟩⟩
  have hcomms : OwnL W' base 22 1 u1 (.slice a.mA a.comms.length a.mC) a.comms := OwnM.grown h.own.comms hg (fun k hk e => (hap k e.symm).1 hk)
  have hexts : OwnL W' base 25 1 x1 (.slice a.xA a.exts.length a.xC) a.exts := OwnM.grown h.own.exts hg (own_ne h.own.exts hcl (by decide))
  have hlarges : OwnL W' base 81 3 Lg.cs (.slice a.lA a.larges.length a.lC) a.larges := OwnM.grown h.own.larges hg (own_ne h.own.larges hcl (by decide))
  have hbel : Below base w W' := h.bel.grown hg h.low (fun k hk => (OwnM.lt hcl k hk).1)
  refine ⟨h1.setAt 15 _, ⟨hpath.off hs h1 (by decide) (by decide), hcomms.off hs h1 (by decide), hexts.off hs h1 (by decide), hlarges.off hs h1 (by decide), ho.off hs h1 (by decide), h.own.next, h.own.mfit, h.own.xfit, h.own.lfit, fun n hn => ?_, h.own.ofit, h.own.nfit⟩, ?_, ?_, ?_, h.lt⟩
  · rcases List.mem_cons.1 hn with rfl | hn
    · exact hx
    · exact h.own.kfit n hn
  · exact hbel.grown hs (Nat.le_trans h.low hg.size) (fun k hk => by injection hk with hk; omega)
  · exact (h.cf.own hg (cells_apart h.cf hcl (by decide))).row hs (by omega)
  · exact (h.so.own hg (cells_apart h.so hcl (by decide))).row hs (by omega)

set_option maxRecDepth 100000 in
set_option maxHeartbeats 16000000 in
theorem inside_any (g : Cfg) (hg : g.Ok) (p : Pth) (a : Atr) (b base : Nat) (w : World) (hc : CellsAt w b a.ar 33) (ho : AtO w base a) (hb : base ≤ b) (hz1 : ∀ s ∈ a.segs, s.as_.length * 4 ≤ 140737488351232) (hz2 : a.segs.length * 32 ≤ 140737488351232) (hap : ClAp a) (hsid : p.sid < 4294967296) :
    Calls Tryz.prog 79 #[.agg g.ar, .agg p.so, .pointer (some ⟨b, 0, none⟩)] w (TurnP w base b (inF g (p.kind == 4 || p.kind == 5) p.sid a.c)) := by
  obtain ⟨POST, hP⟩ : ∃ P, P = TurnP w base b (inF g (p.kind == 4 || p.kind == 5) p.sid a.c) := ⟨_, rfl⟩
  rw [← hP]
  have HRET : Hid (∀ (E : Int) (r : AtC) (q : Nat) (W : World) (a' : Atr), inF g (p.kind == 4 || p.kind == 5) p.sid a.c = (r, E) → a'.c = r → TS w W base b q g p a' → POST (.returned (.int .i64 E)) W) := fun E r q W a' e1 e2 h => by
    rw [hP, e1]
    exact ⟨a', rfl, h.at_, h.own, e2, h.bel⟩
  have HZ1 := Lib.hid hz1
  have HZ2 := Lib.hid hz2
  have HCF := Lib.hid hg
  have hst := TS.start g p hc ho hb
  clear hc ho hz1 hz2 hP hg
  go_enter Tryz.func79, Tryz.ntmps79
  go_upto_region 1 with fail
  refine rb_name fun V hV => ?_
  obtain ⟨q, hq⟩ : ∃ q, q = w.heap.size := ⟨_, rfl⟩
  have HT0 : Hid (TS w V base b q g p a) := by rw [hV, hq]; exact hst
  rw [← hq]
  clear hV hst hq
  have HAP := Lib.hid hap
  have HSID := Lib.hid hsid
  clear hap hsid
  go_wp2_with fail
  refine (preferred_any a b _ HT0.out.at_).mono ?_
  rintro e w2 ⟨rfl, hc2, hg2⟩
  have HT1 : Hid (TS w w2 base b q g p a.prefd) := HT0.out.turn hc2 AtO.prefd hg2
  clear hc2 hg2 HT0
  obtain ⟨q0, q3⟩ := so_cells HT1.out.so
  obtain ⟨y, hy⟩ : ∃ y, y = !(p.kind == 4 || p.kind == 5) := ⟨_, rfl⟩
  have HY := Lib.hid hy
  clear hy
  go_upto_region 2 with fail
  go_cut [17] (fun v wx => v = .bool y ∧ wx = w2)
  case first =>
    by_cases h4 : p.kind = 4
    · have k1 : (p.kind == 4) = true := beq_iff_eq.2 h4
      have k2 : (p.kind != 4) = false := by rw [bne, k1]; rfl
      obtain rfl : y = false := by rw [HY.out, k1]; rfl
      clear h4
      go_wp2_with fail
      go_meet
      exact ⟨rfl, rfl⟩
    · have k1 : (p.kind == 4) = false := beq_eq_false_iff_ne.2 h4
      have k2 : (p.kind != 4) = true := by rw [bne, k1]; rfl
      by_cases h5 : p.kind = 5
      · have l1 : (p.kind == 5) = true := beq_iff_eq.2 h5
        have l2 : (p.kind != 5) = false := by rw [bne, l1]; rfl
        obtain rfl : y = false := by rw [HY.out, k1, l1]; rfl
        clear h4 h5
        go_wp2_with fail
        go_meet
        exact ⟨rfl, rfl⟩
      · have l1 : (p.kind == 5) = false := beq_eq_false_iff_ne.2 h5
        have l2 : (p.kind != 5) = true := by rw [bne, l1]; rfl
        obtain rfl : y = true := by rw [HY.out, k1, l1]; rfl
        clear h4 h5
        go_wp2_with fail
        go_meet
        exact ⟨rfl, rfl⟩
  case rest =>
  obtain ⟨rfl, hwc⟩ := hcut
  subst hwc
  obtain ⟨w2, hwc⟩ : ∃ x, x = wc := ⟨_, rfl⟩
  subst hwc
  clear q0 q3
  cases y with
  | true =>
    have HE : Hid (inF g (p.kind == 4 || p.kind == 5) p.sid a.c = (a.prefd.c, 0)) := by
      have h := HY.out
      show _ = _
      cases h2 : (p.kind == 4 || p.kind == 5) with
      | true => rw [h2] at h; cases h
      | false => rfl
    go_wp2_with fail
    exact HRET.out _ _ q _ _ HE.out rfl HT1.out
  | false =>
    have HR : Hid ((p.kind == 4 || p.kind == 5) = true) := by
      have h := HY.out
      show _ = _
      cases h2 : (p.kind == 4 || p.kind == 5) with
      | true => rfl
      | false => rw [h2] at h; cases h
    obtain ⟨c0, c1, c2, c3, c4, c5, c6, c7, c8, c9, c10, c11, c12, c13, c14, c15⟩ := atr_cells HT1.out.at_
    have e15 : a.prefd.clus = a.clus := rfl
    have e13 : a.prefd.hasOrig = a.hasOrig := rfl
    rw [e15] at c15
    rw [e13] at c13
    clear e13 e15
    by_cases hlen : 32 ≤ a.clus.length
    · have HE : Hid (inF g (p.kind == 4 || p.kind == 5) p.sid a.c = (a.prefd.c, 3)) := by
        show _ = _
        rw [HR.out]
        unfold inF
        rw [if_neg (by simp), if_pos (by exact hlen)]
        rfl
      have d1 : decide ((32 : Int) ≤ (a.clus.length : Int)) = true := decide_eq_true (by omega)
      have d2 : (32 : Int) ≤ (a.clus.length : Int) := by omega
      go_wp2_with fail
      exact HRET.out _ _ q _ _ HE.out rfl HT1.out
    · have d1 : decide ((32 : Int) ≤ (a.clus.length : Int)) = false := decide_eq_false (by omega)
      have d2 : ¬ (32 : Int) ≤ (a.clus.length : Int) := by omega
      have HLN : Hid (¬ 32 ≤ a.clus.length) := hlen
      clear hlen
      obtain ⟨a6, ha6⟩ : ∃ a6, a6 = if a.hasOrig = true then a.prefd else a.prefd.withOrig p.sid := ⟨_, rfl⟩
      have HA6 := Lib.hid ha6
      clear ha6
      go_upto_if 28 with fail
      go_cut [2] (fun v wx => v = .pointer (some ⟨b, 0, none⟩) ∧ Hid (TS w wx base b q g p a6))
      case first =>
        cases ho : a.hasOrig with
        | true =>
          obtain rfl : a6 = a.prefd := by rw [HA6.out, if_pos ho]
          rw [ho] at c13
          clear ho HA6
          go_wp2_with fail
          go_meet
          exact ⟨rfl, HT1.out⟩
        | false =>
          obtain rfl : a6 = a.prefd.withOrig p.sid := by rw [HA6.out, if_neg (by rw [ho]; simp)]
          rw [ho] at c13
          clear ho HA6
          go_upto_region 7 with fail
          have HTD : Hid (TS w w2.drew base b q g p a.prefd) := HT1.out.below (below_drewN (Below.refl _ _) 1)
          clear c0 c1 c2 c3 c4 c5 c6 c7 c8 c9 c10 c11 c12 c13 c14 c15
          obtain ⟨c0, c1, c2, c3, c4, c5, c6, c7, c8, c9, c10, c11, c12, c13, c14, c15⟩ := atr_cells HTD.out.at_
          have f13 := HTD.out.at_.unfrozen 13
          have f14 := HTD.out.at_.unfrozen 14
          have HT7 := Lib.hid (HTD.out.withOrig p.sid HSID.out)
          obtain ⟨d0, d1, d2, d3, d4, d5, d6, d7, d8, d9, d10, d11, d12, d13, d14, d15⟩ := atr_cells HT1.out.at_
          have HSO1 : Hid (CellsAt (w2.drew.setCell ⟨b, 13, none⟩ (.bool true)) (q + 1) p.so 35) := HTD.out.so.row (grown_setCell _ ⟨b, 13, none⟩ _) (by show q + 1 ≠ b; have := HTD.out.lt; omega)
          have f13' := HT1.out.at_.unfrozen 13
          have f14' := HT1.out.at_.unfrozen 14
          refine wp_region_held_drew (S := fun w' => CellsAt w' (q + 1) p.so 35) (by kernel_rfl) (HTD.out.so) (fun hHeld => ?_)
          refine wpAnyH_take (i := 0) (oi := { dst := some 29, op := Op.move (Operand.tmp 2), type := 86, pos := "export.go:104", after := #[], guard := none }) (v := ?_) rfl (by kernel_rfl) (by kernel_rfl) (by kernel_rfl) (fun _ _ _ h => h) (Or.inl ⟨by rfl, ?_⟩) hHeld ?_
          rotate_left
          · intro w hSw
            clear hSw
            go_simp
            try with_reducible rfl
          try simp only [Act.put, List.setIfInBounds_toArray, List.set_cons_zero, List.set_cons_succ]
          refine wpAnyH_take (i := 1) (oi := { dst := some 30, op := Op.move (Operand.tmp 2), type := 86, pos := "export.go:104", after := #[{ on := 6, ground := Ground.gcOnly Departure.lateStores }], guard := none }) (v := ?_) rfl (by kernel_rfl) (by kernel_rfl) (by kernel_rfl) (fun _ _ _ h => h) (Or.inl ⟨by rfl, ?_⟩) hHeld ?_
          rotate_left
          · intro w hSw
            clear hSw
            go_simp
            try with_reducible rfl
          try simp only [Act.put, List.setIfInBounds_toArray, List.set_cons_zero, List.set_cons_succ]
          refine wpAnyH_take (i := 2) (oi := { dst := some 31, op := Op.fieldAddr 35 (Operand.tmp 4) 3, type := 0, pos := "export.go:104", after := #[{ on := 6, ground := Ground.gcOnly Departure.lateStores }], guard := none }) (v := ?_) rfl (by kernel_rfl) (by kernel_rfl) (by kernel_rfl) (fun _ _ _ h => h) (Or.inl ⟨by rfl, ?_⟩) hHeld ?_
          rotate_left
          · intro w hSw
            clear hSw
            go_simp
            try with_reducible rfl
          try simp only [Act.put, List.setIfInBounds_toArray, List.set_cons_zero, List.set_cons_succ]
          refine wpAnyH_take (i := 3) (oi := { dst := some 32, op := Op.load 22 (Operand.tmp 31), type := 22, pos := "export.go:104", after := #[{ on := 2, ground := Ground.data }, { on := 6, ground := Ground.gcOnly Departure.lateStores }], guard := none }) (v := ?_) rfl (by kernel_rfl) (by kernel_rfl) (by kernel_rfl) (fun _ _ _ h => h) (Or.inl ⟨by rfl, ?_⟩) hHeld ?_
          rotate_left
          · intro w hSw
            obtain ⟨q0, q3⟩ := so_cells hSw
            go_simp
            try with_reducible rfl
          try simp only [Act.put, List.setIfInBounds_toArray, List.set_cons_zero, List.set_cons_succ]
          refine wpAnyH_take (i := 4) (oi := { dst := some 33, op := Op.nilCheck (Operand.tmp 29), type := 0, pos := "export.go:104", after := #[{ on := 0, ground := Ground.data }, { on := 0, ground := Ground.phase }, { on := 1, ground := Ground.textOnly Departure.lateStores }, { on := 2, ground := Ground.textOnly Departure.lateStores }, { on := 3, ground := Ground.textOnly Departure.lateStores }], guard := none }) (v := ?_) rfl (by kernel_rfl) (by kernel_rfl) (by kernel_rfl) (fun _ _ _ h => h) (Or.inl ⟨by rfl, ?_⟩) hHeld ?_
          rotate_left
          · intro w hSw
            clear hSw
            go_simp
            try with_reducible rfl
          try simp only [Act.put, List.setIfInBounds_toArray, List.set_cons_zero, List.set_cons_succ]
          refine wpAnyH_take (i := 5) (oi := { dst := some 34, op := Op.fieldAddr 33 (Operand.tmp 33) 13, type := 0, pos := "export.go:104", after := #[{ on := 4, ground := Ground.data }, { on := 0, ground := Ground.phase }, { on := 1, ground := Ground.textOnly Departure.lateStores }, { on := 2, ground := Ground.textOnly Departure.lateStores }, { on := 3, ground := Ground.textOnly Departure.lateStores }], guard := none }) (v := ?_) rfl (by kernel_rfl) (by kernel_rfl) (by kernel_rfl) (fun _ _ _ h => h) (Or.inl ⟨by rfl, ?_⟩) hHeld ?_
          rotate_left
          · intro w hSw
            clear hSw
            go_simp
            try with_reducible rfl
          try simp only [Act.put, List.setIfInBounds_toArray, List.set_cons_zero, List.set_cons_succ]
          refine wpAnyH_ready (rs := [6]) (by kernel_rfl) (by simp) ?_
          refine AllReadyH.cons (o := { dst := none, op := Op.store 4 (Operand.tmp 34) (Operand.const (Value.bool true)), type := 0, pos := "export.go:104", after := #[{ on := 5, ground := Ground.data }, { on := 0, ground := Ground.phase }, { on := 1, ground := Ground.textOnly Departure.lateStores }, { on := 2, ground := Ground.textOnly Departure.lateStores }, { on := 3, ground := Ground.textOnly Departure.lateStores }], guard := none }) rfl (fun K hK => ?_) AllReadyH.nil
          go_simp
          skip
          refine hK.out _ _ (HSO1.out) (fun hHeld => ?_)
          clear hK K
          try simp only [Act.put, List.setIfInBounds_toArray, List.set_cons_zero, List.set_cons_succ]
          refine wpAnyH_take (i := 7) (oi := { dst := some 35, op := Op.nilCheck (Operand.tmp 30), type := 0, pos := "export.go:104", after := #[{ on := 1, ground := Ground.data }, { on := 0, ground := Ground.phase }, { on := 1, ground := Ground.phase }, { on := 2, ground := Ground.phase }, { on := 3, ground := Ground.phase }, { on := 4, ground := Ground.phase }, { on := 5, ground := Ground.phase }, { on := 6, ground := Ground.phase }], guard := none }) (v := ?_) rfl (by kernel_rfl) (by kernel_rfl) (by kernel_rfl) (fun _ _ _ h => h) (Or.inl ⟨by rfl, ?_⟩) hHeld ?_
          rotate_left
          · intro w hSw
            clear hSw
            go_simp
            try with_reducible rfl
          try simp only [Act.put, List.setIfInBounds_toArray, List.set_cons_zero, List.set_cons_succ]
          refine wpAnyH_take (i := 8) (oi := { dst := some 36, op := Op.fieldAddr 33 (Operand.tmp 35) 14, type := 0, pos := "export.go:104", after := #[{ on := 7, ground := Ground.data }, { on := 0, ground := Ground.phase }, { on := 1, ground := Ground.phase }, { on := 2, ground := Ground.phase }, { on := 3, ground := Ground.phase }, { on := 4, ground := Ground.phase }, { on := 5, ground := Ground.phase }, { on := 6, ground := Ground.phase }], guard := none }) (v := ?_) rfl (by kernel_rfl) (by kernel_rfl) (by kernel_rfl) (fun _ _ _ h => h) (Or.inl ⟨by rfl, ?_⟩) hHeld ?_
          rotate_left
          · intro w hSw
            clear hSw
            go_simp
            try with_reducible rfl
          try simp only [Act.put, List.setIfInBounds_toArray, List.set_cons_zero, List.set_cons_succ]
          refine wpAnyH_ready (rs := [9]) (by kernel_rfl) (by simp) ?_
          refine AllReadyH.cons (o := { dst := none, op := Op.store 22 (Operand.tmp 36) (Operand.tmp 32), type := 0, pos := "export.go:104", after := #[{ on := 8, ground := Ground.data }, { on := 3, ground := Ground.data }, { on := 6, ground := Ground.chain }, { on := 0, ground := Ground.phase }, { on := 1, ground := Ground.phase }, { on := 2, ground := Ground.phase }, { on := 3, ground := Ground.phase }, { on := 4, ground := Ground.phase }, { on := 5, ground := Ground.phase }, { on := 6, ground := Ground.phase }], guard := none }) rfl (fun K hK => ?_) AllReadyH.nil
          go_simp
          skip
          refine hK.out _ _ (HT7.out.so) (fun hHeld => ?_)
          clear hK K
          try simp only [Act.put, List.setIfInBounds_toArray, List.set_cons_zero, List.set_cons_succ]
          refine wpAnyH_done (by kernel_rfl) ?_ _
          go_wp2_with fail
          go_meet
          exact ⟨rfl, HT7.out⟩
      case rest =>
      obtain ⟨rfl, HT6⟩ := hcut
      obtain ⟨V6, hwc⟩ : ∃ x, x = wc := ⟨_, rfl⟩
      subst hwc
      have HC6 : Hid (a6.clus = a.clus ∧ a6.kA = a.kA ∧ a6.kC = a.kC ∧ ClAp a6) := by
        show _ ∧ _
        rw [HA6.out]
        split <;> exact ⟨rfl, rfl, rfl, HAP.out⟩
      clear HT1 c0 c1 c2 c3 c4 c5 c6 c7 c8 c9 c10 c11 c12 c13 c14 c15 d1 d2
      obtain ⟨g0, g1, g2, g4, g5⟩ := cfg_cells HT6.out.cf
      obtain ⟨K, hK⟩ : ∃ K : Nat, K = (if g.cluster = 0 then g.id else g.cluster) := ⟨_, rfl⟩
      have HK := Lib.hid hK
      have HKF : Hid (K < 4294967296) := by
        show _ < _
        rw [hK]
        split
        · exact HCF.out.id
        · exact HCF.out.cluster
      clear hK
      go_upto_if 40 with fail
      go_cut [7] (fun v wx => v = .int .u32 (K : Nat) ∧ wx = V6)
      case first =>
        by_cases h : g.cluster = 0
        · have k1 : ((g.cluster : Int) == 0) = true := by rw [h]; rfl
          have k2 : (g.cluster == 0) = true := by rw [h]; rfl
          obtain rfl : K = g.id := HK.out.trans (if_pos h)
          clear h
          go_wp2_with fail
          go_meet
          exact ⟨rfl, rfl⟩
        · have k1 : ((g.cluster : Int) == 0) = false := beq_eq_false_iff_ne.2 (by omega)
          have k2 : (g.cluster == 0) = false := beq_eq_false_iff_ne.2 h
          obtain rfl : K = g.cluster := HK.out.trans (if_neg h)
          clear h
          go_wp2_with fail
          go_meet
          exact ⟨rfl, rfl⟩
      case rest =>
      obtain ⟨rfl, hwc⟩ := hcut
      subst hwc
      obtain ⟨V6, hwc⟩ : ∃ x, x = wc := ⟨_, rfl⟩
      subst hwc
      obtain ⟨c0, c1, c2, c3, c4, c5, c6, c7, c8, c9, c10, c11, c12, c13, c14, c15⟩ := atr_cells HT6.out.at_
      obtain ⟨V7, hV7⟩ : ∃ V, V = V6.alloc (.cells #[.int .u32 (K : Nat)] 22) := ⟨_, rfl⟩
      obtain ⟨v7, hv7⟩ : ∃ b, b = V6.heap.size := ⟨_, rfl⟩
      have HV7 : Hid (CellsAt V7 v7 (u1 K).toArray 22) := by rw [hV7, hv7]; exact CellsAt.new _ _ _
      have HT7 : Hid (TS w V7 base b q g p a6) := by rw [hV7]; exact HT6.out.below (below1 _ _)
      have HOB : Hid ((Value.slice a6.kA a6.clus.length a6.kC).ownBlock ≠ some v7) := fun e => by
        have := (OwnM.lt HT6.out.own.clus _ e).2
        omega
      have HLQ : Hid (a6.clus.length ≤ 1000000) := by have h1 := HC6.out.1; have h2 := HLN.out; show _ ≤ _; rw [h1]; omega
      clear g0 g1 g2 g4 g5
      go_wp2_with fail
      rw [← hV7, ← hv7]
      clear hV7 hv7 c0 c1 c2 c3 c4 c5 c6 c7 c8 c9 c10 c11 c12 c13 c14 c15
      refine (ins_u32 base (.slice a6.kA a6.clus.length a6.kC) a6.clus K v7 V7 HT7.out.own.clus HT7.out.low HV7.out HOB.out HLQ.out).mono ?_
      rintro e w8 ⟨A8, c8, rfl, ho8, hg8⟩
      have HT8 : Hid (TS w (w8.setCell ⟨b, 15, none⟩ (.slice A8 (a6.clus.length + 1) c8)) base b q g p (a6.withClus A8 (K :: a6.clus) c8)) := HT7.out.clus HC6.out.2.2.2 hg8 ho8 rfl HKF.out
      have HA8 : Hid (CellsAt w8 b a6.ar 33) := HT7.out.at_.own hg8 (cells_apart HT7.out.at_ HT7.out.own.clus (by decide))
      have HE : Hid (inF g (p.kind == 4 || p.kind == 5) p.sid a.c = ((a6.withClus A8 (K :: a6.clus) c8).c, 0)) := by
        show _ = _
        rw [HR.out]
        unfold inF
        rw [if_neg (by simp), if_neg (by exact HLN.out)]
        have e1 : (a6.withClus A8 (K :: a6.clus) c8).c = { a6.c with clus := K :: a.clus } := by
          rw [← HC6.out.1]
          rfl
        rw [e1, HK.out, HA6.out]
        by_cases ho : a.hasOrig = true
        · have ho2 : a.c.hasOrig = true := ho
          rw [if_pos ho, if_pos ho2]
          show _ = (({ prefF a.c with clus := _ } : AtC), _)
          have e3 : (prefF a.c).hasOrig = true := ho
          cases hpc : prefF a.c
          rw [hpc] at e3
          subst e3
          have e4 : a.c.orig = (prefF a.c).orig := rfl
          rw [e4, hpc]
          rfl
        · have ho2 : ¬ a.c.hasOrig = true := ho
          rw [if_neg ho, if_neg ho2]
          rfl
      clear ho8 hg8
      obtain ⟨c0, c1, c2, c3, c4, c5, c6, c7, c8, c9, c10, c11, c12, c13, c14, c15⟩ := atr_cells HA8.out
      have f15 := HA8.out.unfrozen 15
      go_wp2_with fail
      exact HRET.out _ _ q _ _ HE.out rfl HT8.out
end Go.Proofs.YtojiieghjhjoaaaGreat
