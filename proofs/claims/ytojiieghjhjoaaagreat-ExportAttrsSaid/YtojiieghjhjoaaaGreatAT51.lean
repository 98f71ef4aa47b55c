/-
  Several texts in one.
-/
import Derived.Test.YtojiieghjhjoaaaGreatAT47
set_option linter.unusedVariables false
set_option linter.unusedSimpArgs false
namespace Go.Proofs.YtojiieghjhjoaaaGreat
open Go.RowKit Go.MapKept Go.Shelf
open Go.Lib hiding intOf

theorem CellsAt.to {w w' : World} {b : Nat} {cs cs' : Array Value} {T : TypeId} (h : CellsAt w b cs T) (e : w' = w) (e2 : cs = cs') : CellsAt w' b cs' T := by subst e; subst e2; exact h
set_option maxHeartbeats 4000000 in
theorem rbare28_any (a : Atr) (w : World) : Calls Tryz.prog 47 #[.agg a.ar] w fun e w' => e = .returned (.agg a.alone.ar) ∧ Below w.heap.size w w' := by
  go_enter Tryz.func47, Tryz.ntmps47
  go_upto_region 1 with fail
  refine rb_name fun V hV => ?_
  obtain ⟨s, hs⟩ : ∃ s, s = w.heap.size := ⟨_, rfl⟩
  have HA : Hid (CellsAt V s a.ar 33) := by rw [hV, hs]; exact new1 _ _ _ _
  have HR : Hid (CellsAt V (s + 1) noAtr.ar 33) := by rw [hV, hs]; exact new2b _ _ _ _
  have HB : Hid (Below w.heap.size w V) := by rw [hV]; exact below2 _ _ _
  have HS : Hid (s = w.heap.size) := hs
  rw [← hs]
  clear hV hs
  obtain ⟨c0, c1, c2, c3, c4, c5, c6, c7, c8, c9, c10, c11, c12, c13, c14, c15⟩ := atr_cells HA.out
  have f13 := HA.out.unfrozen 13
  have f14 := HA.out.unfrozen 14
  have f15 := HA.out.unfrozen 15
  have HA2 : Hid (CellsAt (((V.setCell ⟨s, 13, none⟩ (.bool false)).setCell ⟨s, 14, none⟩ (.int .u32 0)).setCell ⟨s, 15, none⟩ (.slice none 0 0)) s a.alone.ar 33) := ((HA.out.setAt 13 _).setAt 14 _).setAt 15 _
  have HG : Hid (V.grownBy (((V.setCell ⟨s, 13, none⟩ (.bool false)).setCell ⟨s, 14, none⟩ (.int .u32 0)).setCell ⟨s, 15, none⟩ (.slice none 0 0)) (some s)) := grown_trans (grown_trans (grown_setCell V ⟨s, 13, none⟩ _) (grown_setCell _ ⟨s, 14, none⟩ _)) (grown_setCell _ ⟨s, 15, none⟩ _)
  go_upto_region 4 with fail
  refine rb_name fun V4 hV4 => ?_
  have HA4 : Hid (CellsAt V4 s a.alone.ar 33) := by rw [hV4]; exact HA2.out
  have HR4 : Hid (CellsAt V4 (s + 1) noAtr.ar 33) := by rw [hV4]; exact HR.out.row HG.out (by omega)
  have HB4 : Hid (Below w.heap.size w V4) := by rw [hV4]; exact HB.out.grown HG.out HB.out.size (fun k hk => by injection hk with hk; have := HS.out; omega)
  clear hV4 HA2 HG c0 c1 c2 c3 c4 c5 c6 c7 c8 c9 c10 c11 c12 c13 c14 c15 f13 f14 f15 HA HR HB
  go_wp2_with (with_reducible show wpList _ _ _ (_ :: _) _ _; first | refine wpList_load_attrs rfl (.tmp 1) rfl s rfl a.alone HA4.out ?_ | refine wpList_store_attrs rfl (.tmp 2) (.tmp 6) rfl (s + 1) rfl a.alone (by kernel_rfl) noAtr HR4.out ?_)
  try simp only [Exit.inBlock, Exit.then]
  have HG := Lib.hid (grown_setRow' V4 (s + 1) a.alone.ar)
  refine bodyPost_ret (results_attrs rfl _ _ (s + 1) a.alone rfl (HR4.out.setRow' _)) rfl ⟨rfl, ?_⟩
  exact HB4.out.grown HG.out HB4.out.size (fun k hk => by injection hk with hk; have := HS.out; omega)
set_option maxHeartbeats 4000000 in
theorem rpref28_any (a : Atr) (w : World) : Calls Tryz.prog 46 #[.agg a.ar] w fun e w' => e = .returned (.agg a.prefd.ar) ∧ Below w.heap.size w w' := by
  obtain ⟨P, hP⟩ : ∃ P, P = Value.agg a.prefd.ar := ⟨_, rfl⟩
  rw [← hP]
  go_enter Tryz.func46, Tryz.ntmps46
  go_upto_region 1 with fail
  refine rb_name fun V hV => ?_
  obtain ⟨s, hs⟩ : ∃ s, s = w.heap.size := ⟨_, rfl⟩
  have HA : Hid (CellsAt V s a.ar 33) := by rw [hV, hs]; exact new1 _ _ _ _
  have HR : Hid (CellsAt V (s + 1) noAtr.ar 33) := by rw [hV, hs]; exact new2b _ _ _ _
  have HB : Hid (Below w.heap.size w V) := by rw [hV]; exact below2 _ _ _
  have HS : Hid (s = w.heap.size) := hs
  rw [← hs]
  clear hV hs
  obtain ⟨c0, c1, c2, c3, c4, c5, c6, c7, c8, c9, c10, c11, c12, c13, c14, c15⟩ := atr_cells HA.out
  have f5 := HA.out.unfrozen 5
  have f6 := HA.out.unfrozen 6
  have HA2 : Hid (a.hasPref = false → CellsAt ((V.setCell ⟨s, 5, none⟩ (.bool true)).setCell ⟨s, 6, none⟩ (.int .u32 100)) s a.prefd.ar 33) := fun hp => by
    have h2 := (HA.out.setAt 5 (.bool true)).setAt 6 (.int .u32 100)
    unfold Atr.prefd
    rw [hp]
    exact h2
  have HG : Hid (V.grownBy ((V.setCell ⟨s, 5, none⟩ (.bool true)).setCell ⟨s, 6, none⟩ (.int .u32 100)) (some s)) := grown_trans (grown_setCell V ⟨s, 5, none⟩ _) (grown_setCell _ ⟨s, 6, none⟩ _)
  cases hp : a.hasPref with
  | true =>
    have e : a.prefd = a := by unfold Atr.prefd; rw [hp]; cases a; cases hp; rfl
    rw [e] at hP
    subst hP
    rw [hp] at c5
    clear hp e HA2 HG
    go_wp2_with (with_reducible show wpList _ _ _ (_ :: _) _ _; first | refine wpList_load_attrs rfl (.tmp 1) rfl s rfl a HA.out ?_ | refine wpList_store_attrs rfl (.tmp 2) (.tmp 8) rfl (s + 1) rfl a (by kernel_rfl) noAtr HR.out ?_)
    try simp only [Exit.inBlock, Exit.then]
    have HG := Lib.hid (grown_setRow' V (s + 1) a.ar)
    refine bodyPost_ret (results_attrs rfl _ _ (s + 1) a rfl (HR.out.setRow' _)) rfl ⟨rfl, ?_⟩
    exact HB.out.grown HG.out HB.out.size (fun k hk => by injection hk with hk; have := HS.out; omega)
  | false =>
    rw [hp] at c5
    subst hP
    have HA3 := Lib.hid (HA2.out hp)
    clear hp
    go_upto_region 4 with fail
    refine rb_name fun V4 hV4 => ?_
    have HA4 : Hid (CellsAt V4 s a.prefd.ar 33) := by rw [hV4]; exact HA3.out
    have HR4 : Hid (CellsAt V4 (s + 1) noAtr.ar 33) := by rw [hV4]; exact HR.out.row HG.out (by omega)
    have HB4 : Hid (Below w.heap.size w V4) := by rw [hV4]; exact HB.out.grown HG.out HB.out.size (fun k hk => by injection hk with hk; have := HS.out; omega)
    clear hV4 HA2 HA3 HG c0 c1 c2 c3 c4 c5 c6 c7 c8 c9 c10 c11 c12 c13 c14 c15 f5 f6 HA HR HB
    go_wp2_with (with_reducible show wpList _ _ _ (_ :: _) _ _; first | refine wpList_load_attrs rfl (.tmp 1) rfl s rfl a.prefd HA4.out ?_ | refine wpList_store_attrs rfl (.tmp 2) (.tmp 8) rfl (s + 1) rfl a.prefd (by kernel_rfl) noAtr HR4.out ?_)
    try simp only [Exit.inBlock, Exit.then]
    have HG := Lib.hid (grown_setRow' V4 (s + 1) a.prefd.ar)
    refine bodyPost_ret (results_attrs rfl _ _ (s + 1) a.prefd rfl (HR4.out.setRow' _)) rfl ⟨rfl, ?_⟩
    exact HB4.out.grown HG.out HB4.out.size (fun k hk => by injection hk with hk; have := HS.out; omega)
/-- attributes in their box, a configuration, a path, the result in theirs -/
structure OS (w V : World) (base s : Nat) (g : Cfg) (p : Pth) (a : Atr) : Prop where
  c : CellsAt V s g.ar 49
  p : CellsAt V (s + 1) p.ar 37
  at_ : CellsAt V (s + 1 + 1) a.ar 33
  r : CellsAt V (s + 1 + 1 + 1) noAtr.ar 33
  own : AtO V base a
  b : Below w.heap.size w V
  s : s = w.heap.size
section
variable {w V V' : World} {base s : Nat} {g : Cfg} {p : Pth} {a a' : Atr}
theorem OS.below (h : OS w V base s g p a) (hb : Below V.heap.size V V') : OS w V' base s g p a := ⟨h.c.below hb h.c.lt, h.p.below hb h.p.lt, h.at_.below hb h.at_.lt, h.r.below hb h.r.lt, h.own.below hb, h.b.trans (hb.mono h.b.size), h.s⟩
theorem OS.turn (h : OS w V base s g p a) (hc : CellsAt V' (s + 1 + 1) a'.ar 33) (ho : AtO V' base a → AtO V' base a') (hg : V.grownBy V' (some (s + 1 + 1))) : OS w V' base s g p a' := by
  have hs := h.s
  exact ⟨h.c.row hg (by omega), h.p.row hg (by omega), hc, h.r.row hg (by omega), ho (h.own.box hg h.at_), h.b.grown hg h.b.size (fun k hk => by injection hk with hk; omega), hs⟩
theorem OS.start (w : World) (g : Cfg) (p : Pth) (a : Atr) (base : Nat) (ho : AtO w base a) : OS w ((((w.alloc (.cells g.ar 49)).alloc (.cells p.ar 37)).alloc (.cells a.ar 33)).alloc (.cells noAtr.ar 33)) base w.heap.size g p a := by
  have z2 : ((w.alloc (.cells g.ar 49)).alloc (.cells p.ar 37)).heap.size = w.heap.size + 1 + 1 := by simp
  have z3 : (((w.alloc (.cells g.ar 49)).alloc (.cells p.ar 37)).alloc (.cells a.ar 33)).heap.size = w.heap.size + 1 + 1 + 1 := by simp
  have hb : Below w.heap.size w ((((w.alloc (.cells g.ar 49)).alloc (.cells p.ar 37)).alloc (.cells a.ar 33)).alloc (.cells noAtr.ar 33)) := ((below2 w _ _).alloc (by rw [z2]; omega) _).alloc (by rw [z3]; omega) _
  refine ⟨((new1 _ _ _ _).alloc _).alloc _, ((new2b _ _ _ _).alloc _).alloc _, ?_, ?_, ho.below hb, hb, rfl⟩
  · have h := CellsAt.new ((w.alloc (.cells g.ar 49)).alloc (.cells p.ar 37)) a.ar 33
    rw [z2] at h
    exact h.alloc _
  · have h := CellsAt.new (((w.alloc (.cells g.ar 49)).alloc (.cells p.ar 37)).alloc (.cells a.ar 33)) noAtr.ar 33
    rwa [z3] at h
theorem OS.path (h : OS w V base s g p a) {A : Option Addr} {n c : Nat} {segs : List Sg} (hs : SegsO V base (.slice A n c) segs) (hn : segs.length = n) : OS w (V.setCell ⟨s + 1 + 1, 1, none⟩ (.slice A n c)) base s g p (a.withPath A segs c) := by
  subst hn
  have hg : V.grownBy (V.setCell ⟨s + 1 + 1, 1, none⟩ (.slice A segs.length c)) (some (s + 1 + 1)) := grown_setCell V ⟨s + 1 + 1, 1, none⟩ _
  exact h.turn (h.at_.setAt 1 _) (fun ho => { path := hs.off hg h.at_ (by decide) (by decide), comms := ho.comms, exts := ho.exts, larges := ho.larges, clus := ho.clus, next := ho.next, mfit := ho.mfit, xfit := ho.xfit, lfit := ho.lfit, kfit := ho.kfit, ofit := ho.ofit, nfit := ho.nfit }) hg
theorem OS.noPref (h : OS w V base s g p a) : OS w ((V.setCell ⟨s + 1 + 1, 5, none⟩ (.bool false)).setCell ⟨s + 1 + 1, 6, none⟩ (.int .u32 0)) base s g p a.noPref :=
  h.turn ((h.at_.setAt 5 _).setAt 6 _) (fun ho => { path := ho.path, comms := ho.comms, exts := ho.exts, larges := ho.larges, clus := ho.clus, next := ho.next, mfit := ho.mfit, xfit := ho.xfit, lfit := ho.lfit, kfit := ho.kfit, ofit := ho.ofit, nfit := ⟨ho.nfit.1, by show (0 : Nat) < _; decide, ho.nfit.2.2⟩ }) (grown_trans (grown_setCell V ⟨s + 1 + 1, 5, none⟩ _) (grown_setCell _ ⟨s + 1 + 1, 6, none⟩ _))
theorem OS.noMed (h : OS w V base s g p a) : OS w ((V.setCell ⟨s + 1 + 1, 3, none⟩ (.bool false)).setCell ⟨s + 1 + 1, 4, none⟩ (.int .u32 0)) base s g p a.noMed :=
  h.turn ((h.at_.setAt 3 _).setAt 4 _) (fun ho => { path := ho.path, comms := ho.comms, exts := ho.exts, larges := ho.larges, clus := ho.clus, next := ho.next, mfit := ho.mfit, xfit := ho.xfit, lfit := ho.lfit, kfit := ho.kfit, ofit := ho.ofit, nfit := ⟨by show (0 : Nat) < _; decide, ho.nfit.2⟩ }) (grown_trans (grown_setCell V ⟨s + 1 + 1, 3, none⟩ _) (grown_setCell _ ⟨s + 1 + 1, 4, none⟩ _))
end
/-- what the document's outside answers -/
def ROutP (w0 : World) (base : Nat) (r : AtC × Int) (e : Ending) (w' : World) : Prop := ∃ a' : Atr, e = .returned (.tuple #[.agg a'.ar, .int .i64 r.2]) ∧ AtO w' base a' ∧ a'.c = r.1 ∧ Below w0.heap.size w0 w'
set_option maxRecDepth 100000 in
set_option maxHeartbeats 16000000 in
theorem routside_any (g : Cfg) (hg : g.Ok) (p : Pth) (a : Atr) (base : Nat) (w : World) (ho : AtO w base a) (hb : base ≤ w.heap.size) (hz1 : ∀ s ∈ a.segs, s.as_.length * 4 ≤ 140737488351232) (hz2 : a.segs.length * 32 ≤ 140737488351232) :
    Calls Tryz.prog 44 #[.agg g.ar, .agg p.ar, .agg a.ar] w (ROutP w base (outF g (p.kind == 1) a.c)) := by
  obtain ⟨POST, hP⟩ : ∃ P, P = ROutP w base (outF g (p.kind == 1) a.c) := ⟨_, rfl⟩
  rw [← hP]
  have HRET : Hid (∀ (E : Int) (a' : Atr) (W : World), outF g (p.kind == 1) a.c = (a'.c, E) → AtO W base a' → Below w.heap.size w W → POST (.returned (.tuple #[.agg a'.ar, .int .i64 E])) W) := fun E a' W e1 h1 h2 => by
    rw [hP, e1]
    exact ⟨a', rfl, h1, rfl, h2⟩
  have HZ1 := Lib.hid hz1
  have HZ2 := Lib.hid hz2
  have HCF := Lib.hid hg
  have HBB := Lib.hid hb
  have hst := OS.start w g p a base ho
  have HBA : Hid (∀ W, SegsOk W a.pA a.pC a.segs → Calls Tryz.prog 80 #[.slice a.pA a.segs.length a.pC] W (SegsP W (bareF (a.segs.map Sg.c)))) := fun W h => rbare_any a.pA a.pC a.segs W h HZ1.out HZ2.out
  clear ho hz1 hz2 hP hg hb
  go_enter Tryz.func44, Tryz.ntmps44
  go_upto_region 1 with fail
  refine rb_name fun V hV => ?_
  obtain ⟨s, hs⟩ : ∃ s, s = w.heap.size := ⟨_, rfl⟩
  have HT0 : Hid (OS w V base s g p a) := by rw [hV, hs]; exact hst
  have HS : Hid (s = w.heap.size) := hs
  rw [← hs]
  clear hV hst hs
  obtain ⟨g0, g1, g2, g4, g5⟩ := cfg_cells HT0.out.c
  obtain ⟨K, hK⟩ : ∃ K : Nat, K = (if 0 < g.confed then g.confed else g.as_) := ⟨_, rfl⟩
  have HK := Lib.hid hK
  have HKF : Hid (K < 4294967296) := by
    show _ < _
    rw [hK]
    split
    · exact HCF.out.confed
    · exact HCF.out.as_
  clear hK
  go_upto_if 15 with fail
  go_cut [8] (fun v wx => v = .int .u32 (K : Nat) ∧ wx = V)
  case first =>
    by_cases h : 0 < g.confed
    · have d1 : decide ((0 : Int) < (g.confed : Int)) = true := decide_eq_true (by omega)
      have d2 : (0 : Int) < (g.confed : Int) := by omega
      obtain rfl : K = g.confed := HK.out.trans (if_pos h)
      clear h
      go_wp2_with fail
      go_meet
      exact ⟨rfl, rfl⟩
    · have d1 : decide ((0 : Int) < (g.confed : Int)) = false := decide_eq_false (by omega)
      have d2 : ¬ (0 : Int) < (g.confed : Int) := by omega
      obtain rfl : K = g.as_ := HK.out.trans (if_neg h)
      clear h
      go_wp2_with fail
      go_meet
      exact ⟨rfl, rfl⟩
  case rest =>
  obtain ⟨rfl, hwc⟩ := hcut
  subst hwc
  obtain ⟨V, hwc⟩ : ∃ x, x = wc := ⟨_, rfl⟩
  subst hwc
  clear g0 g1 g2 g4 g5
  obtain ⟨c0, c1, c2, c3, c4, c5, c6, c7, c8, c9, c10, c11, c12, c13, c14, c15⟩ := atr_cells HT0.out.at_
  go_wp2_with fail
  refine (HBA.out _ HT0.out.own.ok.path).mono ?_
  rintro e w4 ⟨A4, n4, k4, segs4, rfl, hn4, hm4, hs4, hb4⟩
  subst hn4
  have HT4 : Hid (OS w w4 base s g p a) := HT0.out.below hb4
  have HM4 : Hid (segs4.map Sg.c = bareF (a.segs.map Sg.c)) := hm4
  obtain ⟨hy1, hy2⟩ := bare_sz HM4.out HZ1.out HZ2.out
  have HPR := Lib.hid (rprep_any A4 k4 segs4 K false w4 hs4.ok hy1 hy2 HKF.out)
  clear hm4 hs4 hb4 hy1 hy2 HBA HT0 c0 c1 c2 c3 c4 c5 c6 c7 c8 c9 c10 c11 c12 c13 c14 c15
  go_wp2_with fail
  refine HPR.out.mono ?_
  rintro e w5 ⟨A5, n5, k5, segs5, rfl, hn5, hm5, hs5, hb5⟩
  subst hn5
  have HT5 : Hid (OS w w5 base s g p a) := HT4.out.below hb5
  have HS5 : Hid (SegsO w5 base (.slice A5 segs5.length k5) segs5) := hs5.lower (Nat.le_trans HBB.out HT4.out.b.size)
  have HM5 : Hid (segs5.map Sg.c = (prepF (bareF a.c.path) K false).1) := by show _ = _; rw [hm5, HM4.out]; rfl
  have HE5 : Hid ((prepF (segs4.map Sg.c) K false).2 = (prepF (bareF a.c.path) K false).2) := by show _ = _; rw [HM4.out]; rfl
  rw [HE5.out]
  obtain ⟨E, hE⟩ : ∃ E, E = (prepF (bareF a.c.path) K false).2 := ⟨_, rfl⟩
  rw [← hE]
  have HEE := Lib.hid hE
  clear hm5 hs5 hb5 HPR HT4 hE HE5 HM4
  go_wp2_with (with_reducible show wpList _ _ _ (_ :: _) _ _; refine wpList_load_attrs rfl (.tmp 5) rfl (s + 1 + 1) rfl a HT5.out.at_ ?_)
  refine (rbare28_any a _).mono ?_
  rintro e w6 ⟨rfl, hb6⟩
  have HT6 : Hid (OS w w6 base s g p a) := HT5.out.below hb6
  have HS6 : Hid (SegsO w6 base (.slice A5 segs5.length k5) segs5) := HS5.out.keep (fun i _ hi => hb6.block i hi)
  clear hb6 HT5 HS5
  go_upto_region 6 with (with_reducible show wpList _ _ _ (_ :: _) _ _; refine wpList_store_attrs rfl (.tmp 5) (.tmp 27) rfl (s + 1 + 1) rfl a.alone (by kernel_rfl) a HT6.out.at_ ?_)
  have HG7 := Lib.hid (grown_setRow' w6 (s + 1 + 1) a.alone.ar)
  refine rb_name fun V7 hV7 => ?_
  have HT7 : Hid (OS w V7 base s g p a.alone) := by rw [hV7]; exact HT6.out.turn (HT6.out.at_.setRow' _) AtO.alone HG7.out
  have HS7 : Hid (SegsO V7 base (.slice A5 segs5.length k5) segs5) := by rw [hV7]; exact HS6.out.off HG7.out HT6.out.at_ (by decide) (by decide)
  have HT8 : Hid (OS w ((((V7.setCell ⟨s + 1 + 1, 1, none⟩ (.slice A5 segs5.length k5)).setCell ⟨s + 1 + 1, 5, none⟩ (.bool false)).setCell ⟨s + 1 + 1, 6, none⟩ (.int .u32 0))) base s g p (a.alone.withPath A5 segs5 k5).noPref) := (HT7.out.path HS7.out rfl).noPref
  clear hV7 HG7 HT6 HS6
  obtain ⟨c0, c1, c2, c3, c4, c5, c6, c7, c8, c9, c10, c11, c12, c13, c14, c15⟩ := atr_cells HT7.out.at_
  have f1 := HT7.out.at_.unfrozen 1
  have f5 := HT7.out.at_.unfrozen 5
  have f6 := HT7.out.at_.unfrozen 6
  go_upto_region 9 with fail
  refine rb_name fun V9 hV9 => ?_
  have HT9 : Hid (OS w V9 base s g p (a.alone.withPath A5 segs5 k5).noPref) := by rw [hV9]; exact HT8.out
  clear hV9 HT8 HT7 HS7 c0 c1 c2 c3 c4 c5 c6 c7 c8 c9 c10 c11 c12 c13 c14 c15 f1 f5 f6
  obtain ⟨p0, p4, p5, p8, p16, p22, p23, p25⟩ := pth_cells HT9.out.p
  obtain ⟨L, hL⟩ : ∃ L, L = (p.kind == 1) := ⟨_, rfl⟩
  have HL := Lib.hid hL
  clear hL
  have HEN : Hid (outF g (p.kind == 1) a.c = ((if L = true then (a.alone.withPath A5 segs5 k5).noPref else (a.alone.withPath A5 segs5 k5).noPref.noMed).c, E)) := by
    show _ = _
    have e1 : (a.alone.withPath A5 segs5 k5).c = { aloneF a.c with path := (prepF (bareF a.c.path) K false).1 } := by
      rw [← HM5.out]
      rfl
    have e2 : (a.alone.withPath A5 segs5 k5).noPref.c = { aloneF a.c with path := (prepF (bareF a.c.path) K false).1, hasPref := false, pref := 0 } := by
      show ({ (a.alone.withPath A5 segs5 k5).c with hasPref := false, pref := 0 } : AtC) = _
      rw [e1]
    rw [HEE.out, HK.out, ← HL.out]
    unfold outF
    rw [← HK.out]
    cases L with
    | true =>
      rw [if_pos rfl, if_pos rfl, e2]
      rfl
    | false =>
      rw [if_neg (by simp), if_neg (by simp)]
      show _ = (({ (a.alone.withPath A5 segs5 k5).noPref.c with hasMed := false, med := 0 } : AtC), _)
      rw [e2]
      rfl
  cases L with
  | true =>
    have k1 : (p.kind == 1) = true := HL.out.symm
    have k2 : (p.kind != 1) = false := by rw [bne, k1]; rfl
    rw [if_pos rfl] at HEN
    obtain ⟨a9, ha9⟩ : ∃ a9, a9 = (a.alone.withPath A5 segs5 k5).noPref := ⟨_, rfl⟩
    rw [← ha9] at HT9 HEN
    clear ha9
    go_wp2_with (with_reducible show wpList _ _ _ (_ :: _) _ _; first | refine wpList_load_attrs rfl (.tmp 5) rfl (s + 1 + 1) rfl a9 HT9.out.at_ ?_ | refine wpList_store_attrs rfl (.tmp 6) (.tmp 38) rfl (s + 1 + 1 + 1) rfl a9 (by kernel_rfl) noAtr HT9.out.r ?_)
    try simp only [Exit.inBlock, Exit.then]
    have HG := Lib.hid (grown_setRow' V9 (s + 1 + 1 + 1) a9.ar)
    refine bodyPost_ret (results_at2 rfl _ _ (s + 1 + 1 + 1) a9 (.int .i64 E) rfl rfl (HT9.out.r.setRow' _)) rfl (HRET.out _ a9 _ HEN.out (HT9.out.own.box HG.out HT9.out.r) ?_)
    exact HT9.out.b.grown HG.out HT9.out.b.size (fun k hk => by injection hk with hk; have := HS.out; omega)
  | false =>
    have k1 : (p.kind == 1) = false := HL.out.symm
    have k2 : (p.kind != 1) = true := by rw [bne, k1]; rfl
    rw [if_neg (by simp)] at HEN
    have HTA := Lib.hid HT9.out.noMed
    obtain ⟨c0, c1, c2, c3, c4, c5, c6, c7, c8, c9, c10, c11, c12, c13, c14, c15⟩ := atr_cells HT9.out.at_
    have f3 := HT9.out.at_.unfrozen 3
    have f4 := HT9.out.at_.unfrozen 4
    go_upto_region 12 with fail
    refine rb_name fun VA hVA => ?_
    obtain ⟨a9, ha9⟩ : ∃ a9, a9 = (a.alone.withPath A5 segs5 k5).noPref.noMed := ⟨_, rfl⟩
    rw [← ha9] at HEN
    have HTB : Hid (OS w VA base s g p a9) := by rw [hVA, ha9]; exact HTA.out
    clear hVA HTA HT9 c0 c1 c2 c3 c4 c5 c6 c7 c8 c9 c10 c11 c12 c13 c14 c15 f3 f4 ha9
    go_wp2_with (with_reducible show wpList _ _ _ (_ :: _) _ _; first | refine wpList_load_attrs rfl (.tmp 5) rfl (s + 1 + 1) rfl a9 HTB.out.at_ ?_ | refine wpList_store_attrs rfl (.tmp 6) (.tmp 38) rfl (s + 1 + 1 + 1) rfl a9 (by kernel_rfl) noAtr HTB.out.r ?_)
    try simp only [Exit.inBlock, Exit.then]
    have HG := Lib.hid (grown_setRow' VA (s + 1 + 1 + 1) a9.ar)
    refine bodyPost_ret (results_at2 rfl _ _ (s + 1 + 1 + 1) a9 (.int .i64 E) rfl rfl (HTB.out.r.setRow' _)) rfl (HRET.out _ a9 _ HEN.out (HTB.out.own.box HG.out HTB.out.r) ?_)
    exact HTB.out.b.grown HG.out HTB.out.b.size (fun k hk => by injection hk with hk; have := HS.out; omega)
end Go.Proofs.YtojiieghjhjoaaaGreat
