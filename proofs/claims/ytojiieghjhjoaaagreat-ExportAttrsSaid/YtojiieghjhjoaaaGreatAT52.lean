/-
  Several texts in one.
-/
import Derived.Test.YtojiieghjhjoaaaGreatAT51
set_option linter.unusedVariables false
set_option linter.unusedSimpArgs false
namespace Go.Proofs.YtojiieghjhjoaaaGreat
open Go.RowKit Go.MapKept Go.Shelf
open Go.Lib hiding intOf

/-- the boxes, and attributes in a box of their own -/
structure QS (w V : World) (base s b : Nat) (g : Cfg) (p : Pth) (t : Pr) (a : Atr) : Prop where
  b4 : B4 w V s g p t
  at_ : CellsAt V b a.ar 33
  own : AtO V base a
  lt : s + 1 + 1 + 1 < b
  low : w.heap.size ≤ base
  le : base ≤ b
section
variable {w V V' : World} {base s b : Nat} {g : Cfg} {p : Pth} {t : Pr} {a a' : Atr}
theorem QS.below (h : QS w V base s b g p t a) (hb : Below V.heap.size V V') : QS w V' base s b g p t a := ⟨h.b4.below hb, h.at_.below hb h.at_.lt, h.own.below hb, h.lt, h.low, h.le⟩
theorem QS.turn (h : QS w V base s b g p t a) (hc : CellsAt V' b a'.ar 33) (ho : AtO V' base a → AtO V' base a') (hg : V.grownBy V' (some b)) : QS w V' base s b g p t a' := by
  have hs := h.lt
  exact ⟨⟨h.b4.bx.row hg (by omega), h.b4.r.row hg (by omega)⟩, hc, ho (h.own.box hg h.at_), h.lt, h.low, h.le⟩
theorem QS.put (h : QS w V base s b g p t a) (ho : AtO V base a') : QS w (V.setRow b a'.ar) base s b g p t a' := by
  have hg : V.grownBy (V.setRow b a'.ar) (some b) := grown_setRow' V b _
  have hs := h.lt
  exact ⟨⟨h.b4.bx.row hg (by omega), h.b4.r.row hg (by omega)⟩, h.at_.setRow' _, ho.box hg h.at_, h.lt, h.low, h.le⟩
theorem QS.path (h : QS w V base s b g p t a) {A : Option Addr} {n c : Nat} {segs : List Sg} (hs : SegsO V base (.slice A n c) segs) (hn : segs.length = n) : QS w (V.setCell ⟨b, 1, none⟩ (.slice A n c)) base s b g p t (a.withPath A segs c) := by
  subst hn
  have hg : V.grownBy (V.setCell ⟨b, 1, none⟩ (.slice A segs.length c)) (some b) := grown_setCell V ⟨b, 1, none⟩ _
  exact h.turn (h.at_.setAt 1 _) (fun ho => { path := hs.off hg h.at_ (by decide) (by decide), comms := ho.comms, exts := ho.exts, larges := ho.larges, clus := ho.clus, next := ho.next, mfit := ho.mfit, xfit := ho.xfit, lfit := ho.lfit, kfit := ho.kfit, ofit := ho.ofit, nfit := ho.nfit }) hg
theorem QS.withOrig (h : QS w V base s b g p t a) (n : Nat) (hn : n < 4294967296) : QS w ((V.setCell ⟨b, 13, none⟩ (.bool true)).setCell ⟨b, 14, none⟩ (.int .u32 (n : Nat))) base s b g p t (a.withOrig n) :=
  h.turn ((h.at_.setAt 13 _).setAt 14 _) (fun ho => { path := ho.path, comms := ho.comms, exts := ho.exts, larges := ho.larges, clus := ho.clus, next := ho.next, mfit := ho.mfit, xfit := ho.xfit, lfit := ho.lfit, kfit := ho.kfit, ofit := ho.ofit, nfit := ⟨ho.nfit.1, ho.nfit.2.1, ho.nfit.2.2.1, ho.nfit.2.2.2.1, hn⟩ }) (grown_trans (grown_setCell V ⟨b, 13, none⟩ _) (grown_setCell _ ⟨b, 14, none⟩ _))
theorem QS.clus (h : QS w V base s b g p t a) {A : Option Addr} {n c : Nat} {l : List Nat} (hl : OwnL V base 22 1 u1 (.slice A n c) l) (hn : l.length = n) (hf : ∀ x ∈ l, x < 4294967296) : QS w (V.setCell ⟨b, 15, none⟩ (.slice A n c)) base s b g p t (a.withClus A l c) := by
  subst hn
  have hg : V.grownBy (V.setCell ⟨b, 15, none⟩ (.slice A l.length c)) (some b) := grown_setCell V ⟨b, 15, none⟩ _
  exact h.turn (h.at_.setAt 15 _) (fun ho => { path := ho.path, comms := ho.comms, exts := ho.exts, larges := ho.larges, clus := hl.off hg h.at_ (by decide), next := ho.next, mfit := ho.mfit, xfit := ho.xfit, lfit := ho.lfit, kfit := hf, ofit := ho.ofit, nfit := ho.nfit }) hg
end
set_option maxRecDepth 100000 in
set_option maxHeartbeats 32000000 in
theorem rattrs_any (g : Cfg) (p : Pth) (t : Pr) (w : World) (hg : g.Ok) (hp : PthOk w p) (ht : PrOk w t) : Calls Tryz.prog 16 #[.agg g.ar, .agg p.ar, .agg t.ar] w (AttrsP w (attrsF g p t)) := by
  obtain ⟨POST, hP⟩ : ∃ P, P = AttrsP w (attrsF g p t) := ⟨_, rfl⟩
  rw [← hP]
  have HRET : Hid (∀ (a' : Atr) (E : Int) (W : World), attrsF g p t = (a'.c, E) → AtO W w.heap.size a' → Below w.heap.size w W → POST (.returned (.tuple #[.agg a'.ar, .int .i64 E])) W) := fun a' E W e h1 h2 => by
    rw [hP, e]
    exact ⟨a', rfl, h1, rfl, h2⟩
  obtain ⟨i0, hi, hz0, hz1, hz2⟩ := info_parts inU32
  have HI := Lib.hid hi
  have HZ0 := Lib.hid hz0
  have HZ1 := Lib.hid hz1
  have HZ2 := Lib.hid hz2
  clear hi hz0 hz1 hz2
  obtain ⟨N, hN⟩ : ∃ N, N = nextF g p t := ⟨_, rfl⟩
  have HNF := Lib.hid hN
  have HNS : Hid (N.size ≤ 9223372036854775807) := by show _ ≤ _; rw [hN]; exact nextF_size hp.a.next hg.addr
  obtain ⟨x1, hx1⟩ : ∃ x, x = mayPathF p := ⟨_, rfl⟩
  have HX1 := Lib.hid hx1
  obtain ⟨K, hK⟩ : ∃ K, K = kindOf g t := ⟨_, rfl⟩
  have HKK := Lib.hid hK
  have H1 : Hid (∀ W, Calls Tryz.prog 19 #[.agg g.ar, .agg p.ar, .agg t.ar] W fun e w' => e = .returned (.string N) ∧ Below W.heap.size W w') := fun W => by rw [hN]; exact rnext_any g p t W
  have H2 : Hid (∀ W, Below w.heap.size w W → Calls Tryz.prog 37 #[.agg p.ar] W fun e w' => e = .returned (.bool x1) ∧ Below W.heap.size W w') := fun W hW => by rw [hx1]; exact rmaypath_any p W (hp.below hW (Nat.le_refl _))
  have HCP : Hid (∀ W, Below w.heap.size w W → Calls Tryz.prog 30 #[.agg p.a.ar] W fun e w' => (∃ a' : Atr, e = .returned (.agg a'.ar) ∧ AtO w' W.heap.size a' ∧ a'.c = p.a.c) ∧ Below W.heap.size W w') := fun W hW => rown_any p.a W (hp.a.below hW (Nat.le_refl _)) hp.sz
  have HK : Hid (∀ W, Calls Tryz.prog 36 #[.agg g.ar, .agg t.ar] W fun e w' => e = .returned (.int .i64 K) ∧ Below W.heap.size W w') := fun W => by rw [hK]; exact rinternal_any g t W
  have HCF := Lib.hid hg
  have HSZ := Lib.hid hp.sz
  have HSID := Lib.hid hp.nums.2
  clear hP hN hx1 hK hg hp ht
  go_enter Tryz.func16, Tryz.ntmps16
  go_upto_region 1 with fail
  refine rb_name fun V0 hV0 => ?_
  have hbx := B4.start w g p t
  obtain ⟨s, hs⟩ : ∃ s, s = w.heap.size := ⟨_, rfl⟩
  have HB0 : Hid (B4 w V0 s g p t) := by rw [hV0, hs]; exact hbx
  have HS : Hid (s = w.heap.size) := hs
  rw [← hs]
  clear hV0 hbx hs
  go_wp2_with (with_reducible show wpList _ _ _ (_ :: _) _ _; first | refine wpList_load_conf (by kernel_rfl) (.tmp 3) rfl s rfl g (Lib.hid HB0.out.bx.c) ?_ | refine wpList_load_path (by kernel_rfl) (.tmp 4) rfl (s + 1) rfl p (Lib.hid HB0.out.bx.p) ?_ | refine wpList_load_peer (by kernel_rfl) (.tmp 5) rfl (s + 1 + 1) rfl t (Lib.hid HB0.out.bx.t) ?_)
  refine (H1.out _).mono ?_
  rintro e w1 ⟨rfl, hw1⟩
  have HB1 : Hid (B4 w w1 s g p t) := HB0.out.below hw1
  clear hw1 HB0
  go_wp2_with (with_reducible show wpList _ _ _ (_ :: _) _ _; refine wpList_load_path (by kernel_rfl) (.tmp 4) rfl (s + 1) rfl p (Lib.hid HB1.out.bx.p) ?_)
  refine (H2.out _ HB1.out.bx.b).mono ?_
  rintro e w2 ⟨rfl, hw2⟩
  have HB2 : Hid (B4 w w2 s g p t) := HB1.out.below hw2
  clear hw2 HB1
  cases x1 with
  | false =>
    have HE : Hid (attrsF g p t = (noAtr.c, 2)) := by show _ = _; unfold attrsF; rw [if_pos (Or.inl HX1.out.symm)]; rfl
    go_wp2_with (with_reducible show wpList _ _ _ (_ :: _) _ _; refine wpList_store_attrs rfl (.tmp 6) (.tmp 27) rfl (s + 1 + 1 + 1) rfl noAtr (by kernel_rfl) noAtr HB2.out.r ?_)
    try simp only [Exit.inBlock, Exit.then]
    have HG := Lib.hid (grown_setRow' w2 (s + 1 + 1 + 1) noAtr.ar)
    refine bodyPost_ret (results_at2 rfl _ _ (s + 1 + 1 + 1) noAtr (.int .i64 2) rfl rfl (HB2.out.r.setRow' _)) rfl (HRET.out noAtr _ _ HE.out (noAtr_own _ _) ?_)
    exact HB2.out.bx.b.grown HG.out HB2.out.bx.b.size (fun k hk => by injection hk with hk; have := HS.out; omega)
  | true =>
    by_cases hne : N.size = 0
    · have f1 : N.toList.isEmpty = true := by rw [str_none, hne]; rfl
      have f2 : N = ⟨#[]⟩ := by
        apply ByteArray.ext
        apply Array.eq_empty_of_size_eq_zero
        exact hne
      have HNE : Hid ((nextF g p t).size = 0) := by show _ = _; rw [← HNF.out]; exact hne
      clear hne f1
      subst f2
      have HE : Hid (attrsF g p t = (noAtr.c, 2)) := by show _ = _; unfold attrsF; rw [if_pos (Or.inr HNE.out)]; rfl
      go_wp2_with (with_reducible show wpList _ _ _ (_ :: _) _ _; refine wpList_store_attrs rfl (.tmp 6) (.tmp 27) rfl (s + 1 + 1 + 1) rfl noAtr (by kernel_rfl) noAtr HB2.out.r ?_)
      try simp only [Exit.inBlock, Exit.then]
      have HG := Lib.hid (grown_setRow' w2 (s + 1 + 1 + 1) noAtr.ar)
      refine bodyPost_ret (results_at2 rfl _ _ (s + 1 + 1 + 1) noAtr (.int .i64 2) rfl rfl (HB2.out.r.setRow' _)) rfl (HRET.out noAtr _ _ HE.out (noAtr_own _ _) ?_)
      exact HB2.out.bx.b.grown HG.out HB2.out.bx.b.size (fun k hk => by injection hk with hk; have := HS.out; omega)
    · have f1 := str_ne hne
      obtain ⟨f2, f3, f4⟩ := str_ne' hne
      have HOK : Hid (¬ (mayPathF p = false ∨ (nextF g p t).size = 0)) := by
        show ¬ _
        rw [← HX1.out, ← HNF.out]
        simp [hne]
      have HAE : Hid (∀ (a : Atr), turnF g p t = (a.c, 0) → attrsF g p t = (a.c, 0)) := fun a h => by
        unfold attrsF
        rw [if_neg HOK.out, h, if_neg (by simp)]
      have HAB : Hid (∀ (c : AtC) (E : Int), E ≠ 0 → turnF g p t = (c, E) → attrsF g p t = (noAtr.c, E)) := fun c E hE h => by
        unfold attrsF
        rw [if_neg HOK.out, h, if_pos (by simpa using hE)]
        rfl
      clear hne
      go_wp2_with (with_reducible show wpList _ _ _ (_ :: _) _ _; refine wpList_load_pat (by kernel_rfl) (.tmp 28) rfl (s + 1) rfl p (Lib.hid HB2.out.bx.p) ?_)
      refine (HCP.out _ HB2.out.bx.b).mono ?_
      rintro e w3 ⟨⟨a1, rfl, hcl, hac⟩, hw3⟩
      obtain ⟨B0, hB0⟩ : ∃ B, B = w2.heap.size := ⟨_, rfl⟩
      rw [← hB0] at hcl
      have HCL := Lib.hid hcl
      have HAC := Lib.hid hac
      have HB3 : Hid (B4 w w3 s g p t) := HB2.out.below hw3
      have HBL : Hid (s + 1 + 1 + 1 < B0 ∧ B0 ≤ w3.heap.size) := ⟨by rw [hB0]; exact HB2.out.r.lt, by rw [hB0]; exact hw3.size⟩
      clear hcl hac hw3 hB0 HB2 f1 f2 f3 f4
      go_upto_region 5 with (with_reducible show wpList _ _ _ (_ :: _) _ _; refine wpList_new_row rfl _ (.tmp 9) (.tmp 30) rfl rfl a1.ar rfl 16 atZ rfl rfl (attrs_ones a1) ?_)
      intro V4 HC4 HB4'
      obtain ⟨b, hb⟩ : ∃ b, b = w3.heap.size := ⟨_, rfl⟩
      rw [← hb] at HC4
      have HQ4 : Hid (QS w V4 B0 s b g p t a1) := ⟨HB3.out.below HB4'.out, HC4.out, HCL.out.below HB4'.out, by have := HBL.out; omega, by have := HBL.out; have := HS.out; omega, by have := HBL.out; omega⟩
      rw [← hb]
      clear hb HB4' HB3 HCL HBL HC4
      obtain ⟨c0, c1, c2, c3, c4, c5, c6, c7, c8, c9, c10, c11, c12, c13, c14, c15⟩ := atr_cells HQ4.out.at_
      have fz2 := HQ4.out.at_.unfrozen 2
      go_upto_region 6 with fail
      refine rb_name fun V5 hV5 => ?_
      obtain ⟨a2, ha2⟩ : ∃ a2, a2 = a1.withNext N := ⟨_, rfl⟩
      have HQ5 : Hid (QS w V5 B0 s b g p t a2) := by
        rw [hV5, ha2]
        exact HQ4.out.turn (HQ4.out.at_.setAt 2 _) (fun h2 => ⟨h2.path, h2.comms, h2.exts, h2.larges, h2.clus, HNS.out, h2.mfit, h2.xfit, h2.lfit, h2.kfit, h2.ofit, h2.nfit⟩) (grown_setCell V4 ⟨b, 2, none⟩ _)
      have HAC5 : Hid (a2.c = { p.a.c with next := nextF g p t }) := by
        show _ = _
        rw [ha2, ← HNF.out, ← HAC.out]
        rfl
      have HAZ : Hid ((∀ s ∈ a2.segs, s.as_.length * 4 ≤ 140737488351232) ∧ a2.segs.length * 32 ≤ 140737488351232) := path_sz HSZ.out (by
        have h := congrArg AtC.path HAC5.out
        exact h)
      clear hV5 ha2 c0 c1 c2 c3 c4 c5 c6 c7 c8 c9 c10 c11 c12 c13 c14 c15 fz2 HQ4 HAC
      go_wp2_with (with_reducible show wpList _ _ _ (_ :: _) _ _; first | refine wpList_load_conf (by kernel_rfl) (.tmp 3) rfl s rfl g (Lib.hid HQ5.out.b4.bx.c) ?_ | refine wpList_load_peer (by kernel_rfl) (.tmp 5) rfl (s + 1 + 1) rfl t (Lib.hid HQ5.out.b4.bx.t) ?_)
      refine (HK.out _).mono ?_
      rintro e w6 ⟨rfl, hw6⟩
      have HQ6 : Hid (QS w w6 B0 s b g p t a2) := HQ5.out.below hw6
      clear hw6 HQ5
      by_cases k2 : K = 2
      · -- outside
        have HT : Hid (turnF g p t = outF g (p.kind == 1) a2.c) := by
          show _ = _
          unfold turnF
          rw [← HKK.out, if_pos k2, HAC5.out]
        have e2 : (K == 2) = true := beq_iff_eq.2 k2
        clear k2
        go_wp2_with (with_reducible show wpList _ _ _ (_ :: _) _ _; first | refine wpList_load_conf (by kernel_rfl) (.tmp 3) rfl s rfl g (Lib.hid HQ6.out.b4.bx.c) ?_ | refine wpList_load_path (by kernel_rfl) (.tmp 4) rfl (s + 1) rfl p (Lib.hid HQ6.out.b4.bx.p) ?_ | refine wpList_load_attrs rfl (.tmp 9) rfl b rfl a2 HQ6.out.at_ ?_)
        refine (routside_any g HCF.out p a2 B0 _ HQ6.out.own (by have h3 := HQ6.out.at_.lt; have h4 := HQ6.out.le; omega) HAZ.out.1 HAZ.out.2).mono ?_
        rintro e w7 ⟨a7, rfl, ho7, hm7, hb7⟩
        have HQ7 : Hid (QS w w7 B0 s b g p t a2) := HQ6.out.below hb7
        have HO7 := Lib.hid ho7
        obtain ⟨E, hE⟩ : ∃ E, E = (outF g (p.kind == 1) a2.c).2 := ⟨_, rfl⟩
        have HTE : Hid (turnF g p t = (a7.c, E)) := by show _ = _; rw [HT.out, hm7, hE]
        rw [← hE]
        clear ho7 hm7 hb7 hE HQ6
        by_cases hE0 : E = 0
        · subst hE0
          have HQ8 : Hid (QS w (w7.setRow b a7.ar) B0 s b g p t a7) := HQ7.out.put HO7.out
          go_upto_region 27 with (with_reducible show wpList _ _ _ (_ :: _) _ _; refine wpList_store_attrs rfl (.tmp 9) (.tmp 43) rfl b rfl a7 (by kernel_rfl) a2 HQ7.out.at_ ?_)
          refine rb_name fun V8 hV8 => ?_
          rw [← hV8] at HQ8
          clear hV8 HQ7 HO7
          have HE : Hid (attrsF g p t = (a7.c, 0)) := HAE.out _ HTE.out
          go_wp2_with (with_reducible show wpList _ _ _ (_ :: _) _ _; first | refine wpList_load_attrs rfl (.tmp 9) rfl b rfl a7 HQ8.out.at_ ?_ | refine wpList_store_attrs rfl (.tmp 6) (.tmp 103) rfl (s + 1 + 1 + 1) rfl a7 (by kernel_rfl) noAtr HQ8.out.b4.r ?_)
          try simp only [Exit.inBlock, Exit.then]
          have HG := Lib.hid (grown_setRow' V8 (s + 1 + 1 + 1) a7.ar)
          refine bodyPost_ret (results_at2 rfl _ _ (s + 1 + 1 + 1) a7 (.int .i64 0) rfl rfl (HQ8.out.b4.r.setRow' _)) rfl (HRET.out a7 _ _ HE.out ?_ ?_)
          · exact (HQ8.out.own.box HG.out HQ8.out.b4.r).lower' HQ8.out.low
          · exact HQ8.out.b4.bx.b.grown HG.out HQ8.out.b4.bx.b.size (fun k hk => by injection hk with hk; have := HS.out; omega)
        · have f1 : (E == 0) = false := beq_eq_false_iff_ne.2 hE0
          have f2 : (E != 0) = true := by rw [bne, f1]; rfl
          have HQ8 : Hid (QS w (w7.setRow b a7.ar) B0 s b g p t a7) := HQ7.out.put HO7.out
          have HEE := Lib.hid (HAB.out _ _ hE0 HTE.out)
          clear hE0
          go_upto_region 27 with (with_reducible show wpList _ _ _ (_ :: _) _ _; refine wpList_store_attrs rfl (.tmp 9) (.tmp 43) rfl b rfl a7 (by kernel_rfl) a2 HQ7.out.at_ ?_)
          refine rb_name fun V8 hV8 => ?_
          rw [← hV8] at HQ8
          clear hV8 HQ7 HO7
          have HE : Hid (attrsF g p t = (noAtr.c, E)) := HEE.out
          go_wp2_with (with_reducible show wpList _ _ _ (_ :: _) _ _; refine wpList_store_attrs rfl (.tmp 6) (.tmp 101) rfl (s + 1 + 1 + 1) rfl noAtr (by kernel_rfl) noAtr HQ8.out.b4.r ?_)
          try simp only [Exit.inBlock, Exit.then]
          have HG := Lib.hid (grown_setRow' V8 (s + 1 + 1 + 1) noAtr.ar)
          refine bodyPost_ret (results_at2 rfl _ _ (s + 1 + 1 + 1) noAtr (.int .i64 E) rfl rfl (HQ8.out.b4.r.setRow' _)) rfl (HRET.out noAtr _ _ HE.out (noAtr_own _ _) ?_)
          exact HQ8.out.b4.bx.b.grown HG.out HQ8.out.b4.bx.b.size (fun k hk => by injection hk with hk; have := HS.out; omega)
      · have e2 : (K == 2) = false := beq_eq_false_iff_ne.2 k2
        by_cases k3 : K = 3
        · -- a member
          have HT : Hid (turnF g p t = memF g a2.c) := by
            show _ = _
            unfold turnF
            rw [← HKK.out, if_neg k2, if_pos k3, HAC5.out]
          have e3 : (K == 3) = true := beq_iff_eq.2 k3
          clear k2 k3
          obtain ⟨c0, c1, c2, c3, c4, c5, c6, c7, c8, c9, c10, c11, c12, c13, c14, c15⟩ := atr_cells HQ6.out.at_
          obtain ⟨g0, g1, g2, g4, g5⟩ := cfg_cells HQ6.out.b4.bx.c
          go_wp2_with fail
          refine (rprep_any a2.pA a2.pC a2.segs g.as_ true _ HQ6.out.own.ok.path HAZ.out.1 HAZ.out.2 HCF.out.as_).mono ?_
          rintro e w7 ⟨A5, n5, k5, segs5, rfl, hn5, hm5, hs5, hb5⟩
          subst hn5
          have HQ7 : Hid (QS w w7 B0 s b g p t a2) := HQ6.out.below hb5
          have HS7 : Hid (SegsO w7 B0 (.slice A5 segs5.length k5) segs5) := hs5.lower (by have h3 := HQ6.out.at_.lt; have h4 := HQ6.out.le; omega)
          obtain ⟨E, hE⟩ : ∃ E, E = (prepF (a2.segs.map Sg.c) g.as_ true).2 := ⟨_, rfl⟩
          have HTE : Hid (turnF g p t = ((a2.alone.prefd.withPath A5 segs5 k5).c, E)) := by
            show _ = _
            have e1 : (a2.alone.prefd.withPath A5 segs5 k5).c = { a2.alone.prefd.c with path := (prepF (a2.segs.map Sg.c) g.as_ true).1 } := by
              rw [← hm5]
              rfl
            rw [HT.out, e1, hE]
            rfl
          rw [← hE]
          clear hm5 hs5 hb5 hE HQ6 c0 c1 c2 c3 c4 c5 c6 c7 c8 c9 c10 c11 c12 c13 c14 c15 g0 g1 g2 g4 g5
          go_wp2_with (with_reducible show wpList _ _ _ (_ :: _) _ _; refine wpList_load_attrs rfl (.tmp 9) rfl b rfl a2 HQ7.out.at_ ?_)
          refine (rbare28_any a2 _).mono ?_
          rintro e w8 ⟨rfl, hb8⟩
          have HQ8 : Hid (QS w w8 B0 s b g p t a2) := HQ7.out.below hb8
          have HS8 : Hid (SegsO w8 B0 (.slice A5 segs5.length k5) segs5) := HS7.out.keep (fun i _ hi => hb8.block i hi)
          clear hb8 HQ7 HS7
          go_wp2_with fail
          refine (rpref28_any a2.alone _).mono ?_
          rintro e w9 ⟨rfl, hb9⟩
          have HQ9 : Hid (QS w w9 B0 s b g p t a2) := HQ8.out.below hb9
          have HS9 : Hid (SegsO w9 B0 (.slice A5 segs5.length k5) segs5) := HS8.out.keep (fun i _ hi => hb9.block i hi)
          clear hb9 HQ8 HS8
          go_upto_region 13 with (with_reducible show wpList _ _ _ (_ :: _) _ _; refine wpList_store_attrs rfl (.tmp 9) (.tmp 57) rfl b rfl a2.alone.prefd (by kernel_rfl) a2 HQ9.out.at_ ?_)
          refine rb_name fun VA hVA => ?_
          have HQA : Hid (QS w VA B0 s b g p t a2.alone.prefd) := by rw [hVA]; exact HQ9.out.put (AtO.prefd (AtO.alone HQ9.out.own))
          have HSA : Hid (SegsO VA B0 (.slice A5 segs5.length k5) segs5) := by rw [hVA]; exact HS9.out.off (grown_setRow' _ _ _) HQ9.out.at_ (by decide) (by decide)
          clear hVA HQ9 HS9
          obtain ⟨c0, c1, c2, c3, c4, c5, c6, c7, c8, c9, c10, c11, c12, c13, c14, c15⟩ := atr_cells HQA.out.at_
          have f1 := HQA.out.at_.unfrozen 1
          have HQB := Lib.hid (HQA.out.path HSA.out rfl)
          obtain ⟨aB, haB⟩ : ∃ a, a = a2.alone.prefd.withPath A5 segs5 k5 := ⟨_, rfl⟩
          rw [← haB] at HQB HTE
          clear haB HSA
          go_upto_region 27 with fail
          refine rb_name fun VB hVB => ?_
          rw [← hVB] at HQB
          clear hVB HQA c0 c1 c2 c3 c4 c5 c6 c7 c8 c9 c10 c11 c12 c13 c14 c15 f1
          by_cases hE0 : E = 0
          · subst hE0
            have HE : Hid (attrsF g p t = (aB.c, 0)) := HAE.out _ HTE.out
            go_wp2_with (with_reducible show wpList _ _ _ (_ :: _) _ _; first | refine wpList_load_attrs rfl (.tmp 9) rfl b rfl aB HQB.out.at_ ?_ | refine wpList_store_attrs rfl (.tmp 6) (.tmp 103) rfl (s + 1 + 1 + 1) rfl aB (by kernel_rfl) noAtr HQB.out.b4.r ?_)
            try simp only [Exit.inBlock, Exit.then]
            have HG := Lib.hid (grown_setRow' VB (s + 1 + 1 + 1) aB.ar)
            refine bodyPost_ret (results_at2 rfl _ _ (s + 1 + 1 + 1) aB (.int .i64 0) rfl rfl (HQB.out.b4.r.setRow' _)) rfl (HRET.out aB _ _ HE.out ?_ ?_)
            · exact (HQB.out.own.box HG.out HQB.out.b4.r).lower' HQB.out.low
            · exact HQB.out.b4.bx.b.grown HG.out HQB.out.b4.bx.b.size (fun k hk => by injection hk with hk; have := HS.out; omega)
          · have f1 : (E == 0) = false := beq_eq_false_iff_ne.2 hE0
            have f2 : (E != 0) = true := by rw [bne, f1]; rfl
            have HEE := Lib.hid (HAB.out _ _ hE0 HTE.out)
            clear hE0
            have HE : Hid (attrsF g p t = (noAtr.c, E)) := HEE.out
            go_wp2_with (with_reducible show wpList _ _ _ (_ :: _) _ _; refine wpList_store_attrs rfl (.tmp 6) (.tmp 101) rfl (s + 1 + 1 + 1) rfl noAtr (by kernel_rfl) noAtr HQB.out.b4.r ?_)
            try simp only [Exit.inBlock, Exit.then]
            have HG := Lib.hid (grown_setRow' VB (s + 1 + 1 + 1) noAtr.ar)
            refine bodyPost_ret (results_at2 rfl _ _ (s + 1 + 1 + 1) noAtr (.int .i64 E) rfl rfl (HQB.out.b4.r.setRow' _)) rfl (HRET.out noAtr _ _ HE.out (noAtr_own _ _) ?_)
            exact HQB.out.b4.bx.b.grown HG.out HQB.out.b4.bx.b.size (fun k hk => by injection hk with hk; have := HS.out; omega)
        · -- inside
          have HT : Hid (turnF g p t = inF g (p.kind == 4 || p.kind == 5) p.sid a2.c) := by
            show _ = _
            unfold turnF
            rw [← HKK.out, if_neg k2, if_neg k3, HAC5.out]
          have e3 : (K == 3) = false := beq_eq_false_iff_ne.2 k3
          clear k2 k3
          go_wp2_with (with_reducible show wpList _ _ _ (_ :: _) _ _; refine wpList_load_attrs rfl (.tmp 9) rfl b rfl a2 HQ6.out.at_ ?_)
          refine (rpref28_any a2 _).mono ?_
          rintro e w7 ⟨rfl, hb7⟩
          have HQ7 : Hid (QS w w7 B0 s b g p t a2) := HQ6.out.below hb7
          clear hb7 HQ6
          go_upto_region 16 with (with_reducible show wpList _ _ _ (_ :: _) _ _; refine wpList_store_attrs rfl (.tmp 9) (.tmp 62) rfl b rfl a2.prefd (by kernel_rfl) a2 HQ7.out.at_ ?_)
          refine rb_name fun V8 hV8 => ?_
          have HQ8 : Hid (QS w V8 B0 s b g p t a2.prefd) := by rw [hV8]; exact HQ7.out.put (AtO.prefd HQ7.out.own)
          clear hV8 HQ7
          obtain ⟨p0, p4, p5, p8, p16, p22, p23, p25⟩ := pth_cells HQ8.out.b4.bx.p
          obtain ⟨y, hy⟩ : ∃ y, y = (p.kind == 4 || p.kind == 5) := ⟨_, rfl⟩
          have HY := Lib.hid hy
          clear hy
          simp only [Act.put]
          go_cut [11, 72] (fun e v wx => e = .int .i64 0 ∧ v = .bool y ∧ wx = V8)
          case first =>
            by_cases h4 : p.kind = 4
            · have q1 : (p.kind == 4) = true := beq_iff_eq.2 h4
              obtain rfl : y = true := by rw [HY.out, q1]; rfl
              clear h4
              go_wp2_with fail
              go_meet
              exact ⟨rfl, rfl, rfl⟩
            · have q1 : (p.kind == 4) = false := beq_eq_false_iff_ne.2 h4
              obtain rfl : y = (p.kind == 5) := by rw [HY.out, q1]; rfl
              clear h4
              go_wp2_with fail
              go_meet
              exact ⟨rfl, rfl, rfl⟩
          case rest =>
          obtain ⟨rfl, rfl, hwc⟩ := hcut
          subst hwc
          obtain ⟨V8, hwc⟩ : ∃ x, x = wc := ⟨_, rfl⟩
          subst hwc
          cases y with
          | false =>
            have HTE : Hid (turnF g p t = (a2.prefd.c, 0)) := by show _ = _; rw [HT.out, ← HY.out]; rfl
            obtain ⟨aB, haB⟩ : ∃ a, a = a2.prefd := ⟨_, rfl⟩
            rw [← haB] at HQ8 HTE
            clear haB
            have HE : Hid (attrsF g p t = (aB.c, 0)) := HAE.out _ HTE.out
            go_wp2_with (with_reducible show wpList _ _ _ (_ :: _) _ _; first | refine wpList_load_attrs rfl (.tmp 9) rfl b rfl aB HQ8.out.at_ ?_ | refine wpList_store_attrs rfl (.tmp 6) (.tmp 103) rfl (s + 1 + 1 + 1) rfl aB (by kernel_rfl) noAtr HQ8.out.b4.r ?_)
            try simp only [Exit.inBlock, Exit.then]
            have HG := Lib.hid (grown_setRow' V8 (s + 1 + 1 + 1) aB.ar)
            refine bodyPost_ret (results_at2 rfl _ _ (s + 1 + 1 + 1) aB (.int .i64 0) rfl rfl (HQ8.out.b4.r.setRow' _)) rfl (HRET.out aB _ _ HE.out ?_ ?_)
            · exact (HQ8.out.own.box HG.out HQ8.out.b4.r).lower' HQ8.out.low
            · exact HQ8.out.b4.bx.b.grown HG.out HQ8.out.b4.bx.b.size (fun k hk => by injection hk with hk; have := HS.out; omega)
          | true =>
            obtain ⟨c0, c1, c2, c3, c4, c5, c6, c7, c8, c9, c10, c11, c12, c13, c14, c15⟩ := atr_cells HQ8.out.at_
            have e15 : a2.prefd.clus = a2.clus := rfl
            have e13 : a2.prefd.hasOrig = a2.hasOrig := rfl
            rw [e15] at c15
            rw [e13] at c13
            clear e13 e15
            by_cases hlen : 32 ≤ a2.clus.length
            · have HTE : Hid (turnF g p t = (prefF a2.c, 3)) := by
                show _ = _
                rw [HT.out, ← HY.out]
                unfold inF
                rw [if_neg (by simp), if_pos (by exact hlen)]
              have d1 : decide ((32 : Int) ≤ (a2.clus.length : Int)) = true := decide_eq_true (by omega)
              have d2 : (32 : Int) ≤ (a2.clus.length : Int) := by omega
              have HE : Hid (attrsF g p t = (noAtr.c, 3)) := HAB.out _ 3 (by decide) HTE.out
              go_wp2_with (with_reducible show wpList _ _ _ (_ :: _) _ _; refine wpList_store_attrs rfl (.tmp 6) (.tmp 77) rfl (s + 1 + 1 + 1) rfl noAtr (by kernel_rfl) noAtr HQ8.out.b4.r ?_)
              try simp only [Exit.inBlock, Exit.then]
              have HG := Lib.hid (grown_setRow' V8 (s + 1 + 1 + 1) noAtr.ar)
              refine bodyPost_ret (results_at2 rfl _ _ (s + 1 + 1 + 1) noAtr (.int .i64 3) rfl rfl (HQ8.out.b4.r.setRow' _)) rfl (HRET.out noAtr _ _ HE.out (noAtr_own _ _) ?_)
              exact HQ8.out.b4.bx.b.grown HG.out HQ8.out.b4.bx.b.size (fun k hk => by injection hk with hk; have := HS.out; omega)
            · have d1 : decide ((32 : Int) ≤ (a2.clus.length : Int)) = false := decide_eq_false (by omega)
              have d2 : ¬ (32 : Int) ≤ (a2.clus.length : Int) := by omega
              have HLN : Hid (¬ 32 ≤ a2.clus.length) := hlen
              clear hlen
              obtain ⟨a6, ha6⟩ : ∃ a6, a6 = if a2.hasOrig = true then a2.prefd else a2.prefd.withOrig p.sid := ⟨_, rfl⟩
              have HA6 := Lib.hid ha6
              clear ha6
              go_upto_if 80 with fail
              go_cut [11] (fun v wx => v = .int .i64 0 ∧ Hid (QS w wx B0 s b g p t a6))
              case first =>
                cases ho : a2.hasOrig with
                | true =>
                  obtain rfl : a6 = a2.prefd := by rw [HA6.out, if_pos ho]
                  rw [ho] at c13
                  clear ho HA6
                  go_wp2_with fail
                  go_meet
                  exact ⟨rfl, HQ8.out⟩
                | false =>
                  obtain rfl : a6 = a2.prefd.withOrig p.sid := by rw [HA6.out, if_neg (by rw [ho]; simp)]
                  rw [ho] at c13
                  clear ho HA6
                  have f13 := HQ8.out.at_.unfrozen 13
                  have f14 := HQ8.out.at_.unfrozen 14
                  have HP13 : Hid (CellsAt (V8.setCell ⟨b, 13, none⟩ (.bool true)) (s + 1) p.ar 37) := HQ8.out.b4.bx.p.row (grown_setCell V8 ⟨b, 13, none⟩ _) (by show s + 1 ≠ b; have := HQ8.out.lt; omega)
                  have HQ9 := Lib.hid (HQ8.out.withOrig p.sid HSID.out)
                  have hp25 := (pth_cells HP13.out).2.2.2.2.2.2.2
                  have hc14 : (V8.setCell ⟨b, 13, none⟩ (.bool true)).cell? ⟨b, 14, none⟩ = some (.int .u32 (a2.prefd.orig : Nat)) := (HQ8.out.at_.setAt 13 (.bool true)).c 14
                  go_wp2_with fail
                  go_meet
                  exact ⟨rfl, HQ9.out⟩
              case rest =>
              obtain ⟨rfl, HQ9⟩ := hcut
              obtain ⟨V9, hwc⟩ : ∃ x, x = wc := ⟨_, rfl⟩
              subst hwc
              have HC6 : Hid (a6.clus = a2.clus ∧ a6.kA = a2.kA ∧ a6.kC = a2.kC) := by
                show _ ∧ _
                rw [HA6.out]
                split <;> exact ⟨rfl, rfl, rfl⟩
              clear HQ8 c0 c1 c2 c3 c4 c5 c6 c7 c8 c9 c10 c11 c12 c13 c14 c15 d1 d2 p0 p4 p5 p8 p16 p22 p23 p25
              obtain ⟨g0, g1, g2, g4, g5⟩ := cfg_cells HQ9.out.b4.bx.c
              obtain ⟨K, hK⟩ : ∃ K : Nat, K = (if g.cluster = 0 then g.id else g.cluster) := ⟨_, rfl⟩
              have HK2 := Lib.hid hK
              have HKF : Hid (K < 4294967296) := by
                show _ < _
                rw [hK]
                split
                · exact HCF.out.id
                · exact HCF.out.cluster
              clear hK
              go_upto_if 89 with fail
              go_cut [11, 14] (fun e v wx => e = .int .i64 0 ∧ v = .int .u32 (K : Nat) ∧ wx = V9)
              case first =>
                by_cases h : g.cluster = 0
                · have k1 : ((g.cluster : Int) == 0) = true := by rw [h]; rfl
                  have k2 : (g.cluster == 0) = true := by rw [h]; rfl
                  obtain rfl : K = g.id := HK2.out.trans (if_pos h)
                  clear h
                  go_wp2_with fail
                  go_meet
                  exact ⟨rfl, rfl, rfl⟩
                · have k1 : ((g.cluster : Int) == 0) = false := beq_eq_false_iff_ne.2 (by omega)
                  have k2 : (g.cluster == 0) = false := beq_eq_false_iff_ne.2 h
                  obtain rfl : K = g.cluster := HK2.out.trans (if_neg h)
                  clear h
                  go_wp2_with fail
                  go_meet
                  exact ⟨rfl, rfl, rfl⟩
              case rest =>
              obtain ⟨rfl, rfl, hwc⟩ := hcut
              subst hwc
              obtain ⟨V9, hwc⟩ : ∃ x, x = wc := ⟨_, rfl⟩
              subst hwc
              obtain ⟨VA, hVA⟩ : ∃ V, V = V9.alloc (.cells #[.int .u32 (K : Nat)] 22) := ⟨_, rfl⟩
              obtain ⟨v7, hv7⟩ : ∃ b, b = V9.heap.size := ⟨_, rfl⟩
              have HVA : Hid (CellsAt VA v7 (u1 K).toArray 22) := by rw [hVA, hv7]; exact CellsAt.new _ _ _
              have HBA : Hid (Below V9.heap.size V9 VA) := by rw [hVA]; exact below1 _ _
              have HQA : Hid (QS w VA B0 s b g p t a6) := HQ9.out.below HBA.out
              have HV7 : Hid (v7 = V9.heap.size) := hv7
              have HBS : Hid (B0 ≤ V9.heap.size) := by have h3 := HQ9.out.at_.lt; have h4 := HQ9.out.le; show _ ≤ _; omega
              have HXO : Hid (OwnL VA B0 22 1 u1 (.slice (some ⟨v7, 0, none⟩) 1 1) [K]) := OwnM.new' (n := 1) HVA.out (by rw [HV7.out]; exact HBS.out) rfl (by decide)
              have HSR : Hid (Src Tryz.prog VA 29 1 (.slice a6.kA a6.clus.length a6.kC) a6.clus.length (a6.clus.flatMap u1)) := Src.own Tryz.underlying29 HQA.out.own.clus (ones_flat u1s_ones _)
              have HLQ : Hid (a6.clus.length ≤ 32) := by have h1 := HC6.out.1; have h2 := HLN.out; show _ ≤ _; rw [h1]; omega
              obtain ⟨c0, c1, c2, c3, c4, c5, c6, c7, c8, c9, c10, c11, c12, c13, c14, c15⟩ := atr_cells HQA.out.at_
              clear g0 g1 g2 g4 g5
              go_upto_region 26 with fail
              rw [← hVA, ← hv7]
              clear hVA hv7
              go_wp2_with (at_builtin; refine wpList_append_m rfl (.tmp 94) (.tmp 96) 29 29 rfl B0 22 i0 _ 1 4 Tryz.underlying29 HI.out HZ0.out HZ1.out HZ2.out rfl (by decide) (.slice (some ⟨v7, 0, none⟩) 1 1) 1 _ rfl HXO.out _ a6.clus.length _ rfl HSR.out (by have := HLQ.out; unfold maxLen; omega) (by have := HLQ.out; omega) (Nat.le_trans HBS.out HBA.out.size) ?_)
              intro v' wB hown hgB hat
              obtain ⟨A8, cp8, rfl⟩ := hown.form
              have HBB : Hid (Below V9.heap.size V9 wB) := HBA.out.grown hgB HBA.out.size (fun k hk => by have h1 : some v7 = some k := hk; injection h1 with h1; have := HV7.out; omega)
              have HQB : Hid (QS w wB B0 s b g p t a6) := HQ9.out.below HBB.out
              have HOB : Hid (OwnL wB B0 22 1 u1 (.slice A8 (1 + a6.clus.length) cp8) (K :: a6.clus)) := by
                show OwnM _ _ _ _ _ (K :: a6.clus).length _
                rw [show (K :: a6.clus).length = 1 + a6.clus.length from Nat.add_comm _ _]
                exact hown
              have HKS : Hid (∀ x ∈ K :: a6.clus, x < 4294967296) := fun x hx => by
                rcases List.mem_cons.1 hx with rfl | hx
                · exact HKF.out
                · exact HQB.out.own.kfit x hx
              have HQC := Lib.hid (HQB.out.clus HOB.out (Nat.add_comm _ _) HKS.out)
              have HTE : Hid (turnF g p t = ((a6.withClus A8 (K :: a6.clus) cp8).c, 0)) := by
                show _ = _
                rw [HT.out, ← HY.out]
                unfold inF
                rw [if_neg (by simp), if_neg (by exact HLN.out)]
                have e1 : (a6.withClus A8 (K :: a6.clus) cp8).c = { a6.c with clus := K :: a2.clus } := by
                  rw [← HC6.out.1]
                  rfl
                rw [e1, HK2.out, HA6.out]
                by_cases ho : a2.hasOrig = true
                · have ho2 : a2.c.hasOrig = true := ho
                  rw [if_pos ho, if_pos ho2]
                  show _ = (({ prefF a2.c with clus := _ } : AtC), _)
                  have e3 : (prefF a2.c).hasOrig = true := ho
                  cases hpc : prefF a2.c
                  rw [hpc] at e3
                  subst e3
                  have e4 : a2.c.orig = (prefF a2.c).orig := rfl
                  rw [e4, hpc]
                  rfl
                · have ho2 : ¬ a2.c.hasOrig = true := ho
                  rw [if_neg ho, if_neg ho2]
                  rfl
              obtain ⟨aB, haB⟩ : ∃ a, a = a6.withClus A8 (K :: a6.clus) cp8 := ⟨_, rfl⟩
              rw [← haB] at HQC HTE
              clear haB hown hgB hat HBA HQA HVA HXO HSR HQ9 c0 c1 c2 c3 c4 c5 c6 c7 c8 c9 c10 c11 c12 c13 c14 c15 HOB HKS HBB
              obtain ⟨c0, c1, c2, c3, c4, c5, c6, c7, c8, c9, c10, c11, c12, c13, c14, c15⟩ := atr_cells HQB.out.at_
              have f15 := HQB.out.at_.unfrozen 15
              go_upto_region 27 with fail
              refine rb_name fun VC hVC => ?_
              rw [← hVC] at HQC
              clear hVC HQB c0 c1 c2 c3 c4 c5 c6 c7 c8 c9 c10 c11 c12 c13 c14 c15 f15
              have HE : Hid (attrsF g p t = (aB.c, 0)) := HAE.out _ HTE.out
              go_wp2_with (with_reducible show wpList _ _ _ (_ :: _) _ _; first | refine wpList_load_attrs rfl (.tmp 9) rfl b rfl aB HQC.out.at_ ?_ | refine wpList_store_attrs rfl (.tmp 6) (.tmp 103) rfl (s + 1 + 1 + 1) rfl aB (by kernel_rfl) noAtr HQC.out.b4.r ?_)
              try simp only [Exit.inBlock, Exit.then]
              have HG := Lib.hid (grown_setRow' VC (s + 1 + 1 + 1) aB.ar)
              refine bodyPost_ret (results_at2 rfl _ _ (s + 1 + 1 + 1) aB (.int .i64 0) rfl rfl (HQC.out.b4.r.setRow' _)) rfl (HRET.out aB _ _ HE.out ?_ ?_)
              · exact (HQC.out.own.box HG.out HQC.out.b4.r).lower' HQC.out.low
              · exact HQC.out.b4.bx.b.grown HG.out HQC.out.b4.bx.b.size (fun k hk => by injection hk with hk; have := HS.out; omega)
end Go.Proofs.YtojiieghjhjoaaaGreat
