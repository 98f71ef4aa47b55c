/-
  Several texts in one.
-/
import Derived.Test.YtojiieghjhjoaaaGreatKN25
set_option linter.unusedVariables false
set_option linter.unusedSimpArgs false
namespace Go.Proofs.YtojiieghjhjoaaaGreat
open Go.RowKit Go.MapKept Go.Shelf
open Go.Lib hiding intOf

/-- the boxes, and what may still be -/
structure My (w V : World) (s m : Nat) (g : Cfg) (p : Pth) (t : Pr) (b : Bool) : Prop where
  bx : Bx w V s g p t
  mc : CellsAt V m #[.bool b] 4
  lt : s + 1 + 1 < m
theorem My.below {w V V' : World} {s m : Nat} {g : Cfg} {p : Pth} {t : Pr} {b : Bool} (h : My w V s m g p t b) (hb : Below V.heap.size V V') : My w V' s m g p t b := ⟨h.bx.below hb, h.mc.below hb h.mc.lt, h.lt⟩
theorem My.turn {w V V' : World} {s m : Nat} {g : Cfg} {p : Pth} {t : Pr} {b b' : Bool} (h : My w V s m g p t b) (hc : CellsAt V' m #[.bool b'] 4) (hg : V.grownBy V' (some m)) : My w V' s m g p t b' := ⟨h.bx.row hg h.lt, hc, h.lt⟩

set_option maxRecDepth 100000 in
set_option maxHeartbeats 16000000 in
theorem may_any (g : Cfg) (p : Pth) (t : Pr) (w : World) (hp : PthOk w p) (ht : PrOk w t) : Calls Tryz.prog 10 #[.agg g.ar, .agg p.ar, .agg t.ar] w fun e w' => e = .returned (.bool (mayF g p t)) ∧ Below w.heap.size w w' := by
  obtain ⟨P, hP⟩ : ∃ P, P = mayF g p t := ⟨_, rfl⟩
  rw [← hP]
  unfold mayF at hP
  obtain ⟨x1, hx1⟩ : ∃ x, x = mayPathF p := ⟨_, rfl⟩
  obtain ⟨x2, hx2⟩ : ∃ x, x = t.fams.contains p.n.fam := ⟨_, rfl⟩
  obtain ⟨x3, hx3⟩ : ∃ x, x = (p.peer.toList == t.name.toList) := ⟨_, rfl⟩
  obtain ⟨x4, hx4⟩ : ∃ x, x = hasN p.a.comms 4294967042 := ⟨_, rfl⟩
  obtain ⟨x5, hx5⟩ : ∃ x, x = hasN p.a.comms 4294967041 := ⟨_, rfl⟩
  obtain ⟨x6, hx6⟩ : ∃ x, x = hasN p.a.comms 4294967043 := ⟨_, rfl⟩
  obtain ⟨K, hK⟩ : ∃ K, K = kindOf g t := ⟨_, rfl⟩
  obtain ⟨y5, hy5⟩ : ∃ y, y = (x5 && K == 2) := ⟨_, rfl⟩
  obtain ⟨y6, hy6⟩ : ∃ y, y = (x6 && (K == 2 || K == 3)) := ⟨_, rfl⟩
  obtain ⟨y7, hy7⟩ : ∃ y, y = (K == 4 && p.kind == 4) := ⟨_, rfl⟩
  rw [← hx1, ← hx2, ← hx3, ← hx4, ← hx5, ← hx6, ← hK, ← hy5, ← hy6, ← hy7] at hP
  have HP := Lib.hid hP
  have HX3 := Lib.hid hx3
  have HY5 := Lib.hid hy5
  have HY6 := Lib.hid hy6
  have HY7 := Lib.hid hy7
  have H1 : Hid (∀ W, Below w.heap.size w W → Calls Tryz.prog 33 #[.agg p.ar] W fun e w' => e = .returned (.bool x1) ∧ Below W.heap.size W w') := fun W hW => by rw [hx1]; exact maypath_any p W (hp.below hW (Nat.le_refl _))
  have H2 : Hid (∀ W, Below w.heap.size w W → Calls Tryz.prog 34 #[.slice t.fA t.fams.length t.fC, .int .i64 p.n.fam] W fun e w' => e = .returned (.bool x2) ∧ w' = W) := fun W hW => by rw [hx2]; exact contains_i t.fA t.fC t.fams p.n.fam W (ht.below hW (Nat.le_refl _)).rd (Nat.le_trans ht.len ht.cap)
  have H4 : Hid (∀ W, Below w.heap.size w W → Calls Tryz.prog 35 #[.slice p.a.mA p.a.comms.length p.a.mC, .int .u32 4294967042] W fun e w' => e = .returned (.bool x4) ∧ w' = W) := fun W hW => by rw [hx4]; exact commhas_any p.a.mA p.a.mC p.a.comms _ W (hp.a.below hW (Nat.le_refl _)).mrd hp.a.mlen hp.a.mcap
  have H5 : Hid (∀ W, Below w.heap.size w W → Calls Tryz.prog 35 #[.slice p.a.mA p.a.comms.length p.a.mC, .int .u32 4294967041] W fun e w' => e = .returned (.bool x5) ∧ w' = W) := fun W hW => by rw [hx5]; exact commhas_any p.a.mA p.a.mC p.a.comms _ W (hp.a.below hW (Nat.le_refl _)).mrd hp.a.mlen hp.a.mcap
  have H6 : Hid (∀ W, Below w.heap.size w W → Calls Tryz.prog 35 #[.slice p.a.mA p.a.comms.length p.a.mC, .int .u32 4294967043] W fun e w' => e = .returned (.bool x6) ∧ w' = W) := fun W hW => by rw [hx6]; exact commhas_any p.a.mA p.a.mC p.a.comms _ W (hp.a.below hW (Nat.le_refl _)).mrd hp.a.mlen hp.a.mcap
  have HK : Hid (∀ W, Calls Tryz.prog 31 #[.agg g.ar, .agg t.ar] W fun e w' => e = .returned (.int .i64 K) ∧ Below W.heap.size W w') := fun W => by rw [hK]; exact internal_any g t W
  clear hP hx1 hx2 hx3 hx4 hx5 hx6 hK hy5 hy6 hy7 hp ht
  go_enter Tryz.func10, Tryz.ntmps10
  go_upto_region 1 with fail
  refine rb_name fun V0 hV0 => ?_
  have hbx := Bx.start w g p t
  obtain ⟨s, hs⟩ : ∃ s, s = w.heap.size := ⟨_, rfl⟩
  have HB0 : Hid (Bx w V0 s g p t) := by rw [hV0, hs]; exact hbx
  rw [← hs]
  clear hV0 hbx hs
  go_wp2_with (with_reducible show wpList _ _ _ (_ :: _) _ _; first | refine wpList_load_conf (by kernel_rfl) (.tmp 3) rfl s rfl g (Lib.hid HB0.out.c) ?_ | refine wpList_load_peer (by kernel_rfl) (.tmp 5) rfl (s + 1 + 1) rfl t (Lib.hid HB0.out.t) ?_)
  refine (HK.out _).mono ?_
  rintro e w1 ⟨rfl, hw1⟩
  have HB1 : Hid (Bx w w1 s g p t) := HB0.out.below hw1
  clear hw1 HB0
  go_upto_region 3 with fail
  refine rb_name fun V1 hV1 => ?_
  obtain ⟨m, hm⟩ : ∃ m, m = w1.heap.size := ⟨_, rfl⟩
  have HM1 : Hid (My w V1 s m g p t true) := by
    rw [hV1, hm]
    refine ⟨HB1.out.below ((Below.refl _ _).alloc (Nat.le_refl _) _), CellsAt.new _ _ _, HB1.out.t.lt⟩
  rw [← hm]
  clear hV1 hm HB1
  go_wp2_with (with_reducible show wpList _ _ _ (_ :: _) _ _; refine wpList_load_path (by kernel_rfl) (.tmp 4) rfl (s + 1) rfl p (Lib.hid HM1.out.bx.p) ?_)
  refine (H1.out _ HM1.out.bx.b).mono ?_
  rintro e w2 ⟨rfl, hw2⟩
  have HM2 : Hid (My w w2 s m g p t true) := HM1.out.below hw2
  clear hw2 HM1
  go_wp2_with fail
  refine (not_any true (!x1) m _ HM2.out.mc).mono ?_
  rintro e w3 ⟨rfl, hc3, hg3⟩
  obtain ⟨b1, hb1⟩ : ∃ b, b = (true && !(!x1)) := ⟨_, rfl⟩
  have HM3 : Hid (My w w3 s m g p t b1) := by rw [hb1]; exact HM2.out.turn hc3 hg3
  have HQ1 := Lib.hid hb1
  clear hc3 hg3 HM2 hb1
  obtain ⟨c0, c4, c5, c8, c16, c22, c23, c25⟩ := pth_cells HM3.out.bx.p
  obtain ⟨t0, t12, t22⟩ := pr_cells HM3.out.bx.t
  go_wp2_with fail
  refine (H2.out _ HM3.out.bx.b).mono ?_
  rintro e w4 ⟨rfl, hw4⟩
  subst w4
  go_wp2_with fail
  refine (not_any b1 (!x2) m _ HM3.out.mc).mono ?_
  rintro e w4 ⟨rfl, hc3, hg3⟩
  obtain ⟨b2, hb2⟩ : ∃ b, b = (b1 && !(!x2)) := ⟨_, rfl⟩
  have HM4 : Hid (My w w4 s m g p t b2) := by rw [hb2]; exact HM3.out.turn hc3 hg3
  have HQ2 := Lib.hid hb2
  clear hc3 hg3 HM3 hb2 c0 c4 c5 c8 c16 c22 c23 c25 t0 t12 t22
  obtain ⟨c0, c4, c5, c8, c16, c22, c23, c25⟩ := pth_cells HM4.out.bx.p
  obtain ⟨t0, t12, t22⟩ := pr_cells HM4.out.bx.t
  go_wp2_with fail
  rw [← HX3.out]
  refine (not_any b2 x3 m _ HM4.out.mc).mono ?_
  rintro e w5 ⟨rfl, hc3, hg3⟩
  obtain ⟨b3, hb3⟩ : ∃ b, b = (b2 && !x3) := ⟨_, rfl⟩
  have HM5 : Hid (My w w5 s m g p t b3) := by rw [hb3]; exact HM4.out.turn hc3 hg3
  have HQ3 := Lib.hid hb3
  clear hc3 hg3 HM4 hb3 c0 c4 c5 c8 c16 c22 c23 c25 t0 t12 t22
  obtain ⟨c0, c4, c5, c8, c16, c22, c23, c25⟩ := pth_cells HM5.out.bx.p
  obtain ⟨t0, t12, t22⟩ := pr_cells HM5.out.bx.t
  go_wp2_with fail
  refine (H4.out _ HM5.out.bx.b).mono ?_
  rintro e w6 ⟨rfl, hw4⟩
  subst w6
  go_wp2_with fail
  refine (not_any b3 x4 m _ HM5.out.mc).mono ?_
  rintro e w6 ⟨rfl, hc3, hg3⟩
  obtain ⟨b4, hb4⟩ : ∃ b, b = (b3 && !x4) := ⟨_, rfl⟩
  have HM6 : Hid (My w w6 s m g p t b4) := by rw [hb4]; exact HM5.out.turn hc3 hg3
  have HQ4 := Lib.hid hb4
  clear hc3 hg3 HM5 hb4 c0 c4 c5 c8 c16 c22 c23 c25 t0 t12 t22
  go_upto_region 8 with fail
  go_cut [7] (fun v wx => v = .int .i64 K ∧ Hid (My w wx s m g p t (b4 && !y5)))
  case first =>
    obtain ⟨c0, c4, c5, c8, c16, c22, c23, c25⟩ := pth_cells HM6.out.bx.p
    obtain ⟨t0, t12, t22⟩ := pr_cells HM6.out.bx.t
    go_wp2_with fail
    refine (H5.out _ HM6.out.bx.b).mono ?_
    rintro e w7 ⟨rfl, hw4⟩
    subst w7
    cases x5 with
    | true =>
      go_wp2_with fail
      refine (not_any b4 (K == 2) m _ HM6.out.mc).mono ?_
      rintro e w7 ⟨rfl, hc3, hg3⟩
      have HE : Hid (y5 = (K == 2)) := HY5.out
      go_wp2_with fail
      go_meet
      exact ⟨rfl, by show My _ _ _ _ _ _ _ _; rw [HE.out]; exact HM6.out.turn hc3 hg3⟩
    | false =>
      go_wp2_with fail
      refine (not_any b4 false m _ HM6.out.mc).mono ?_
      rintro e w7 ⟨rfl, hc3, hg3⟩
      have HE : Hid (y5 = false) := HY5.out
      go_wp2_with fail
      go_meet
      exact ⟨rfl, by show My _ _ _ _ _ _ _ _; rw [HE.out]; exact HM6.out.turn hc3 hg3⟩
  case rest =>
  obtain ⟨rfl, HM7⟩ := hcut
  obtain ⟨w7, hw7⟩ : ∃ x, x = wc := ⟨_, rfl⟩
  subst hw7
  obtain ⟨b5, hb5⟩ : ∃ b, b = (b4 && !y5) := ⟨_, rfl⟩
  rw [← hb5] at HM7
  have HQ5 := Lib.hid hb5
  clear hb5 HM6
  go_upto_region 9 with fail
  go_cut [7] (fun v wx => v = .int .i64 K ∧ Hid (My w wx s m g p t (b5 && !y6)))
  case first =>
    obtain ⟨c0, c4, c5, c8, c16, c22, c23, c25⟩ := pth_cells HM7.out.bx.p
    obtain ⟨t0, t12, t22⟩ := pr_cells HM7.out.bx.t
    go_wp2_with fail
    refine (H6.out _ HM7.out.bx.b).mono ?_
    rintro e w8 ⟨rfl, hw4⟩
    subst w8
    cases x6 with
    | true =>
      cases hk : K == 2 with
      | true =>
        have HKK := Lib.hid hk
        go_wp2_with fail
        refine (not_any b5 true m _ HM7.out.mc).mono ?_
        rintro e w7 ⟨rfl, hc3, hg3⟩
        have HE : Hid (y6 = true) := by show _ = _; rw [HY6.out, HKK.out]; rfl
        go_wp2_with fail
        go_meet
        exact ⟨rfl, by show My _ _ _ _ _ _ _ _; rw [HE.out]; exact HM7.out.turn hc3 hg3⟩
      | false =>
        have HKK := Lib.hid hk
        go_wp2_with fail
        refine (not_any b5 (K == 3) m _ HM7.out.mc).mono ?_
        rintro e w7 ⟨rfl, hc3, hg3⟩
        have HE : Hid (y6 = (K == 3)) := by show _ = _; rw [HY6.out, HKK.out]; rfl
        go_wp2_with fail
        go_meet
        exact ⟨rfl, by show My _ _ _ _ _ _ _ _; rw [HE.out]; exact HM7.out.turn hc3 hg3⟩
    | false =>
      go_wp2_with fail
      refine (not_any b5 false m _ HM7.out.mc).mono ?_
      rintro e w7 ⟨rfl, hc3, hg3⟩
      have HE : Hid (y6 = false) := HY6.out
      go_wp2_with fail
      go_meet
      exact ⟨rfl, by show My _ _ _ _ _ _ _ _; rw [HE.out]; exact HM7.out.turn hc3 hg3⟩
  case rest =>
  obtain ⟨rfl, HM8⟩ := hcut
  obtain ⟨w8, hw8⟩ : ∃ x, x = wc := ⟨_, rfl⟩
  subst hw8
  obtain ⟨b6, hb6⟩ : ∃ b, b = (b5 && !y6) := ⟨_, rfl⟩
  rw [← hb6] at HM8
  have HQ6 := Lib.hid hb6
  clear hb6 HM7
  go_upto_region 10 with fail
  go_cut [7] (fun v wx => v = .int .i64 K ∧ Hid (My w wx s m g p t (b6 && !y7)))
  case first =>
    obtain ⟨c0, c4, c5, c8, c16, c22, c23, c25⟩ := pth_cells HM8.out.bx.p
    obtain ⟨t0, t12, t22⟩ := pr_cells HM8.out.bx.t
    cases hk : K == 4 with
    | true =>
      have HKK := Lib.hid hk
      go_wp2_with fail
      refine (not_any b6 (p.kind == 4) m _ HM8.out.mc).mono ?_
      rintro e w7 ⟨rfl, hc3, hg3⟩
      have HE : Hid (y7 = (p.kind == 4)) := by show _ = _; rw [HY7.out, HKK.out]; rfl
      go_wp2_with fail
      go_meet
      exact ⟨rfl, by show My _ _ _ _ _ _ _ _; rw [HE.out]; exact HM8.out.turn hc3 hg3⟩
    | false =>
      have HKK := Lib.hid hk
      go_wp2_with fail
      refine (not_any b6 false m _ HM8.out.mc).mono ?_
      rintro e w7 ⟨rfl, hc3, hg3⟩
      have HE : Hid (y7 = false) := by show _ = _; rw [HY7.out, HKK.out]; rfl
      go_wp2_with fail
      go_meet
      exact ⟨rfl, by show My _ _ _ _ _ _ _ _; rw [HE.out]; exact HM8.out.turn hc3 hg3⟩
  case rest =>
  obtain ⟨rfl, HM9⟩ := hcut
  obtain ⟨w9, hw9⟩ : ∃ x, x = wc := ⟨_, rfl⟩
  subst hw9
  obtain ⟨b7, hb7⟩ : ∃ b, b = (b6 && !y7) := ⟨_, rfl⟩
  rw [← hb7] at HM9
  have HQ7 := Lib.hid hb7
  clear hb7 HM8
  have cm := HM9.out.mc.c1
  have HEND : Hid (b7 = P) := by
    show _ = _
    rw [HQ7.out, HQ6.out, HQ5.out, HQ4.out, HQ3.out, HQ2.out, HQ1.out, HP.out]
    simp
  go_wp2_with fail
  go_ret
  exact ⟨by rw [← HEND.out]; rfl, HM9.out.bx.b⟩
end Go.Proofs.YtojiieghjhjoaaaGreat
