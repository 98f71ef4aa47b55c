/-
  ExportNotBack walked. Conditions: sizes.
-/
import Derived.Test.YtojiieghjhjoaaaGreatMY53
set_option linter.unusedVariables false
set_option linter.unusedSimpArgs false
namespace Go.Proofs.YtojiieghjhjoaaaGreat
open Go.RowKit Go.MapKept Go.Shelf
open Go.Lib hiding intOf

theorem cfg_ones (g : Cfg) : g.ar.all Value.oneCell' = true := Array.all_eq_true_iff_forall_mem.2 (fun u hu => by
  simp only [Cfg.ar, List.mem_toArray, List.mem_cons, List.not_mem_nil, or_false] at hu
  rcases hu with rfl | rfl | rfl | rfl | rfl | rfl | rfl | rfl | rfl | rfl | rfl | rfl | rfl <;> rfl)
theorem CellsAt.setX {w : World} {b : Nat} {cs : Array Value} {T : TypeId} (h : CellsAt w b cs T) {c i : Nat} (hne : b ≠ c) (u : Value) : CellsAt (w.setCell ⟨c, i, none⟩ u) b cs T := (Below.heap_setCell w _ _ b hne).trans h
section
variable {w V : World} {s : Nat} {g : Cfg} {p : Pth} {t : Pr}
theorem Bu.setT (h : Bu w V s g p t) (i : Nat) (u : Value) (t' : Pr) (ht : t.ar.setIfInBounds i u = t'.ar) : Bu w (V.setCell ⟨s + 1 + 1, i, none⟩ u) s g p t' := by
  have he := h.e
  refine ⟨h.c.setX (by omega) u, h.p.setX (by omega) u, ?_, Below.setCell (p := ⟨s + 1 + 1, i, none⟩) h.b (by show w.heap.size ≤ s + 1 + 1; omega) u, he, by simpa using h.sz⟩
  rw [← ht]
  exact h.t.setAt i u
theorem Bu.setO (h : Bu w V s g p t) {k : Nat} (hk : s + 1 + 1 < k) (i : Nat) (u : Value) : Bu w (V.setCell ⟨k, i, none⟩ u) s g p t := by
  have he := h.e
  exact ⟨h.c.setX (by omega) u, h.p.setX (by omega) u, h.t.setX (by omega) u, Below.setCell (p := ⟨k, i, none⟩) h.b (by show w.heap.size ≤ k; omega) u, he, by simpa using h.sz⟩
end
/-- it came of that neighbour -/
theorem may_back (g : Cfg) (p : Pth) (t : Pr) (h : t.name = p.peer) : mayF g p t = false := by
  unfold mayF
  rw [h, beq_self_eq_true]
  simp
theorem told_back (g : Cfg) (p : Pth) (t : Pr) (h : t.name = p.peer) : toldF g p t = (noC, false) := by
  unfold toldF
  rw [if_pos (may_back g p t h)]
theorem kind_in (g : Cfg) (t : Pr) (h : t.as_ = g.as_) (h2 : t.client = false) : kindOf g t = 4 := by
  unfold kindOf kindF
  rw [if_pos h, h2]
  rfl
theorem kind_cl (g : Cfg) (t : Pr) (h : t.as_ = g.as_) (h2 : t.client = true) : kindOf g t = 5 := by
  unfold kindOf kindF
  rw [if_pos h, h2]
  rfl
theorem may_inner (g : Cfg) (p : Pth) (t : Pr) (hp : p.kind = 4) (h : t.as_ = g.as_) (h2 : t.client = false) : mayF g p t = false := by
  unfold mayF
  rw [kind_in g t h h2, hp]
  simp
theorem may_client (g : Cfg) (p p4 p5 : Pth) (t : Pr) (h4 : p4 = { p with kind := 4 }) (h5 : p5 = { p with kind := 5 }) (h : t.as_ = g.as_) (h2 : t.client = true) : mayF g p5 t = mayF g p4 t := by
  subst h4 h5
  unfold mayF mayPathF
  rw [kind_cl g t h h2]
  simp
set_option maxRecDepth 100000 in
set_option maxHeartbeats 16000000 in
theorem notback_walk (g : Cfg) (p : Pth) (t : Pr) (w : World) (hg : g.Ok) (hp : PthOk w p) (ht : PrOk w t) : Calls Tryz.prog 5 #[.agg g.us, .agg p.ar, .agg t.ar] w fun e w' => e = .returned (.bool true) ∧ Below w.heap.size w w' := by
  have HWK := Lib.hid works_any
  have HCF := Lib.hid (conf_any g)
  obtain ⟨tb, htb⟩ : ∃ x : Pr, x = { t with name := p.peer } := ⟨_, rfl⟩
  obtain ⟨t3, ht3⟩ : ∃ x : Pr, x = { t with as_ := g.as_ } := ⟨_, rfl⟩
  obtain ⟨t4, ht4⟩ : ∃ x : Pr, x = { t with as_ := g.as_, client := false } := ⟨_, rfl⟩
  obtain ⟨t5, ht5⟩ : ∃ x : Pr, x = { t with as_ := g.as_, client := true } := ⟨_, rfl⟩
  obtain ⟨p4, hp4⟩ : ∃ x : Pth, x = { p with kind := 4 } := ⟨_, rfl⟩
  obtain ⟨p5, hp5⟩ : ∃ x : Pth, x = { p with kind := 5 } := ⟨_, rfl⟩
  have qb : PrOk w tb := by rw [htb]; exact { ht with name := hp.peer }
  have q4 : PrOk w t4 := by rw [ht4]; exact { ht with as_ := hg.as_ }
  have q5 : PrOk w t5 := by rw [ht5]; exact { ht with as_ := hg.as_ }
  have r4 : PthOk w p4 := by rw [hp4]; exact { hp with kind := (by show (-9223372036854775808 : Int) ≤ 4 ∧ (4 : Int) ≤ 9223372036854775807; decide) }
  have r5 : PthOk w p5 := by rw [hp5]; exact { hp with kind := (by show (-9223372036854775808 : Int) ≤ 5 ∧ (5 : Int) ≤ 9223372036854775807; decide) }
  have eb : Hid (t.ar.setIfInBounds 0 (.string p.peer) = tb.ar) := by rw [htb]; rfl
  have e3 : Hid (t.ar.setIfInBounds 6 (.int .u32 (g.as_ : Nat)) = t3.ar) := by rw [ht3]; rfl
  have e4 : Hid (t3.ar.setIfInBounds 10 (.bool false) = t4.ar) := by rw [ht3, ht4]; rfl
  have e5 : Hid (t4.ar.setIfInBounds 10 (.bool true) = t5.ar) := by rw [ht4, ht5]; rfl
  have f4 : Hid (p.ar.setIfInBounds 22 (.int .i64 4) = p4.ar) := by rw [hp4]; rfl
  have f5 : Hid (p4.ar.setIfInBounds 22 (.int .i64 5) = p5.ar) := by rw [hp4, hp5]; rfl
  obtain ⟨m, hm⟩ : ∃ m, m = mayF g p4 t5 := ⟨_, rfl⟩
  have z1 : (m == m) = true := beq_iff_eq.2 rfl
  have HTO : Hid (∀ W, Below w.heap.size w W → Calls Tryz.prog 17 #[.agg g.ar, .agg p.ar, .agg tb.ar] W (ToldP W (noC, false))) := fun W hW => by
    have h := told_any g p tb W hg (hp.below hW (Nat.le_refl _)) (qb.below hW (Nat.le_refl _))
    rwa [told_back g p tb (by rw [htb])] at h
  have HM0 : Hid (∀ W, Below w.heap.size w W → Calls Tryz.prog 10 #[.agg g.ar, .agg p.ar, .agg tb.ar] W fun e w' => e = .returned (.bool false) ∧ Below W.heap.size W w') := fun W hW => by
    have h := may_any g p tb W (hp.below hW (Nat.le_refl _)) (qb.below hW (Nat.le_refl _))
    rwa [may_back g p tb (by rw [htb])] at h
  have HM1 : Hid (∀ W, Below w.heap.size w W → Calls Tryz.prog 10 #[.agg g.ar, .agg p4.ar, .agg t4.ar] W fun e w' => e = .returned (.bool false) ∧ Below W.heap.size W w') := fun W hW => by
    have h := may_any g p4 t4 W (r4.below hW (Nat.le_refl _)) (q4.below hW (Nat.le_refl _))
    rwa [may_inner g p4 t4 (by rw [hp4]) (by rw [ht4]) (by rw [ht4])] at h
  have HM2 : Hid (∀ W, Below w.heap.size w W → Calls Tryz.prog 10 #[.agg g.ar, .agg p4.ar, .agg t5.ar] W fun e w' => e = .returned (.bool m) ∧ Below W.heap.size W w') := fun W hW => by
    rw [hm]
    exact may_any g p4 t5 W (r4.below hW (Nat.le_refl _)) (q5.below hW (Nat.le_refl _))
  have HM3 : Hid (∀ W, Below w.heap.size w W → Calls Tryz.prog 10 #[.agg g.ar, .agg p5.ar, .agg t5.ar] W fun e w' => e = .returned (.bool m) ∧ Below W.heap.size W w') := fun W hW => by
    rw [hm, ← may_client g p p4 p5 t5 hp4 hp5 (by rw [ht5]) (by rw [ht5])]
    exact may_any g p5 t5 W (r5.below hW (Nat.le_refl _)) (q5.below hW (Nat.le_refl _))
  clear hm htb ht3 ht4 ht5 hp4 hp5 qb q4 q5 r4 r5 hg hp ht
  go_enter Tryz.func5, Tryz.ntmps5
  go_upto_region 1 with fail
  refine rb_name fun V0 hV0 => ?_
  have hbx := Bu.start w g p t
  obtain ⟨s, hs⟩ : ∃ s, s = w.heap.size := ⟨_, rfl⟩
  have HB0 : Hid (Bu w V0 s g p t) := by rw [hV0, hs]; exact hbx
  have HS : Hid (s = w.heap.size) := hs
  rw [← hs]
  clear hV0 hbx hs
  go_wp2_with fail
  refine (HWK.out _).mono ?_
  rintro e w1 ⟨rfl, hb⟩
  have HB1 : Hid (Bu w w1 s g p t) := HB0.out.below hb
  clear hb HB0
  go_wp2_with (with_reducible show wpList _ _ _ (_ :: _) _ _; refine wpList_load_row (by kernel_rfl) 24 (.tmp 3) rfl s 0 rfl g.us (whole_range HB1.out.c) usS 5 usZ rfl ?_)
  refine (HCF.out _).mono ?_
  rintro e w2 ⟨rfl, hb⟩
  have HB2 : Hid (Bu w w2 s g p t) := HB1.out.below hb
  clear hb HB1
  go_upto_region 4 with (with_reducible show wpList _ _ _ (_ :: _) _ _; refine wpList_new_row rfl _ (.tmp 7) (.tmp 16) rfl rfl g.ar rfl 13 confZ rfl rfl (cfg_ones g) ?_)
  intro V3 HK7 HB3
  obtain ⟨k7, hk7⟩ : ∃ k, k = w2.heap.size := ⟨_, rfl⟩
  rw [← hk7] at HK7
  have L7 : Hid (s + 1 + 1 < k7) := by rw [hk7]; exact HB2.out.sz
  have HB4 : Hid (Bu w V3 s g p t) := HB2.out.below HB3.out
  rw [← hk7]
  clear hk7 HB2 HB3
  go_upto_region 5 with (with_reducible show wpList _ _ _ (_ :: _) _ _; first | refine wpList_load_peer (by kernel_rfl) (.tmp 5) rfl (s + 1 + 1) rfl t (Lib.hid HB4.out.t) ?_ | refine wpList_new_row rfl _ (.tmp 8) (.tmp 17) rfl rfl t.ar rfl 23 peerZ rfl rfl (pr_ones t) ?_)
  intro V4 HK8 HB5
  obtain ⟨k8, hk8⟩ : ∃ k, k = V3.heap.size := ⟨_, rfl⟩
  rw [← hk8] at HK8
  have L8 : Hid (k7 < k8) := by rw [hk8]; exact HK7.out.lt
  have HB6 : Hid (Bu w V4 s g p t) := HB4.out.below HB5.out
  have HC6 : Hid (CellsAt V4 k7 g.ar 49) := HK7.out.below HB5.out HK7.out.lt
  rw [← hk8]
  clear hk8 HB4 HB5 HK7
  have c1 : V4.cell? ⟨s + 1, 23, none⟩ = some (.string p.peer) := (HB6.out.p.c 23).trans rfl
  have c2 : V4.cell? ⟨k8, 0, none⟩ = some (.string t.name) := (HK8.out.c 0).trans rfl
  have c3 : V4.frozen? ⟨k8, 0, none⟩ = false := HK8.out.unfrozen 0
  go_upto_region 6 with fail
  refine rb_name fun V5 hV5 => ?_
  have HB7 : Hid (Bu w V5 s g p t) := by rw [hV5]; exact HB6.out.setO (Nat.lt_trans L7.out L8.out) _ _
  have HC7 : Hid (CellsAt V5 k7 g.ar 49) := by rw [hV5]; exact HC6.out.setX (Nat.ne_of_lt L8.out) _
  have HD7 : Hid (CellsAt V5 k8 tb.ar 40) := by rw [hV5, ← eb.out]; exact HK8.out.setAt 0 _
  clear hV5 c1 c2 c3 HB6 HC6 HK8
  go_wp2_with (with_reducible show wpList _ _ _ (_ :: _) _ _; first | refine wpList_load_conf (by kernel_rfl) (.tmp 7) rfl k7 rfl g (Lib.hid HC7.out) ?_ | refine wpList_load_path (by kernel_rfl) (.tmp 4) rfl (s + 1) rfl p (Lib.hid HB7.out.p) ?_ | refine wpList_load_peer (by kernel_rfl) (.tmp 8) rfl k8 rfl tb (Lib.hid HD7.out) ?_)
  refine (HTO.out _ HB7.out.b).mono ?_
  rintro e w8 ⟨x, rfl, _, _, hb⟩
  have HB8 : Hid (Bu w w8 s g p t) := HB7.out.below hb
  have HC8 : Hid (CellsAt w8 k7 g.ar 49) := HC7.out.below hb HC7.out.lt
  have HD8 : Hid (CellsAt w8 k8 tb.ar 40) := HD7.out.below hb HD7.out.lt
  clear hb HB7 HC7 HD7
  go_upto_region 7 with (with_reducible show wpList _ _ _ (_ :: _) _ _; refine wpList_new_row rfl _ (.tmp 9) (.tmp 27) rfl rfl x.ar rfl 16 atZ rfl rfl (attrs_ones x) ?_)
  intro V9 _ hb
  have HB9 : Hid (Bu w V9 s g p t) := HB8.out.below hb.out
  have HC9 : Hid (CellsAt V9 k7 g.ar 49) := HC8.out.below hb.out HC8.out.lt
  have HD9 : Hid (CellsAt V9 k8 tb.ar 40) := HD8.out.below hb.out HD8.out.lt
  clear hb HB8 HC8 HD8
  go_wp2_with (with_reducible show wpList _ _ _ (_ :: _) _ _; first | refine wpList_load_conf (by kernel_rfl) (.tmp 7) rfl k7 rfl g (Lib.hid HC9.out) ?_ | refine wpList_load_path (by kernel_rfl) (.tmp 4) rfl (s + 1) rfl p (Lib.hid HB9.out.p) ?_ | refine wpList_load_peer (by kernel_rfl) (.tmp 8) rfl k8 rfl tb (Lib.hid HD9.out) ?_)
  refine (HM0.out _ HB9.out.b).mono ?_
  rintro e w10 ⟨rfl, hb⟩
  have HB10 : Hid (Bu w w10 s g p t) := HB9.out.below hb
  have HC10 : Hid (CellsAt w10 k7 g.ar 49) := HC9.out.below hb HC9.out.lt
  clear hb HB9 HC9 HD9
  have c1 : w10.cell? ⟨s, 0, none⟩ = some (.int .u32 (g.as_ : Nat)) := (HB10.out.c.c 0).trans rfl
  have c2 : w10.cell? ⟨s + 1 + 1, 6, none⟩ = some (.int .u32 (t.as_ : Nat)) := (HB10.out.t.c 6).trans rfl
  have c3 : w10.frozen? ⟨s + 1 + 1, 6, none⟩ = false := HB10.out.t.unfrozen 6
  go_upto_region 10 with fail
  refine rb_name fun V11 hV11 => ?_
  have HB11 : Hid (Bu w V11 s g p t3) := by rw [hV11]; exact HB10.out.setT _ _ t3 e3.out
  have HC11 : Hid (CellsAt V11 k7 g.ar 49) := by rw [hV11]; exact HC10.out.setX (Nat.ne_of_gt L7.out) _
  clear hV11 c1 c2 c3 HB10 HC10
  have c2 : V11.cell? ⟨s + 1 + 1, 10, none⟩ = some (.bool t3.client) := (HB11.out.t.c 10).trans rfl
  have c3 : V11.frozen? ⟨s + 1 + 1, 10, none⟩ = false := HB11.out.t.unfrozen 10
  go_upto_region 11 with fail
  refine rb_name fun V12 hV12 => ?_
  have HB12 : Hid (Bu w V12 s g p t4) := by rw [hV12]; exact HB11.out.setT _ _ t4 e4.out
  have HC12 : Hid (CellsAt V12 k7 g.ar 49) := by rw [hV12]; exact HC11.out.setX (Nat.ne_of_gt L7.out) _
  clear hV12 c2 c3 HB11 HC11
  go_upto_region 12 with (with_reducible show wpList _ _ _ (_ :: _) _ _; first | refine wpList_load_path (by kernel_rfl) (.tmp 4) rfl (s + 1) rfl p (Lib.hid HB12.out.p) ?_ | refine wpList_new_row rfl _ (.tmp 11) (.tmp 52) rfl rfl p.ar rfl 29 pathZ rfl rfl (pth_ones p) ?_)
  intro V13 HK HB
  obtain ⟨k, hk⟩ : ∃ k, k = V12.heap.size := ⟨_, rfl⟩
  rw [← hk] at HK
  have L : Hid (s + 1 + 1 < k) := by rw [hk]; exact HB12.out.sz
  have LC : Hid (k7 < k) := by rw [hk]; exact HC12.out.lt
  have HB13 : Hid (Bu w V13 s g p t4) := HB12.out.below HB.out
  have HC13 : Hid (CellsAt V13 k7 g.ar 49) := HC12.out.below HB.out HC12.out.lt
  rw [← hk]
  clear hk HB HB12 HC12
  have c2 : V13.cell? ⟨k, 22, none⟩ = some (.int .i64 p.kind) := (HK.out.c 22).trans rfl
  have c3 : V13.frozen? ⟨k, 22, none⟩ = false := HK.out.unfrozen 22
  go_upto_region 13 with fail
  refine rb_name fun V14 hV14 => ?_
  have HB14 : Hid (Bu w V14 s g p t4) := by rw [hV14]; exact HB13.out.setO L.out _ _
  have HC14 : Hid (CellsAt V14 k7 g.ar 49) := by rw [hV14]; exact HC13.out.setX (Nat.ne_of_lt LC.out) _
  have HP14 : Hid (CellsAt V14 k p4.ar 37) := by rw [hV14, ← f4.out]; exact HK.out.setAt 22 _
  clear hV14 c2 c3 HB13 HC13 HK
  go_wp2_with (with_reducible show wpList _ _ _ (_ :: _) _ _; first | refine wpList_load_conf (by kernel_rfl) (.tmp 7) rfl k7 rfl g (Lib.hid HC14.out) ?_ | refine wpList_load_path (by kernel_rfl) (.tmp 11) rfl k rfl p4 (Lib.hid HP14.out) ?_ | refine wpList_load_peer (by kernel_rfl) (.tmp 5) rfl (s + 1 + 1) rfl t4 (Lib.hid HB14.out.t) ?_)
  refine (HM1.out _ HB14.out.b).mono ?_
  rintro e w15 ⟨rfl, hb⟩
  have HB15 : Hid (Bu w w15 s g p t4) := HB14.out.below hb
  have HC15 : Hid (CellsAt w15 k7 g.ar 49) := HC14.out.below hb HC14.out.lt
  have HP15 : Hid (CellsAt w15 k p4.ar 37) := HP14.out.below hb HP14.out.lt
  clear hb HB14 HC14 HP14
  have c2 : w15.cell? ⟨s + 1 + 1, 10, none⟩ = some (.bool t4.client) := (HB15.out.t.c 10).trans rfl
  have c3 : w15.frozen? ⟨s + 1 + 1, 10, none⟩ = false := HB15.out.t.unfrozen 10
  go_upto_region 16 with fail
  refine rb_name fun V16 hV16 => ?_
  have HB16 : Hid (Bu w V16 s g p t5) := by rw [hV16]; exact HB15.out.setT _ _ t5 e5.out
  have HC16 : Hid (CellsAt V16 k7 g.ar 49) := by rw [hV16]; exact HC15.out.setX (Nat.ne_of_gt L7.out) _
  have HP16 : Hid (CellsAt V16 k p4.ar 37) := by rw [hV16]; exact HP15.out.setX (Nat.ne_of_gt L.out) _
  clear hV16 c2 c3 HB15 HC15 HP15
  go_wp2_with (with_reducible show wpList _ _ _ (_ :: _) _ _; first | refine wpList_load_conf (by kernel_rfl) (.tmp 7) rfl k7 rfl g (Lib.hid HC16.out) ?_ | refine wpList_load_path (by kernel_rfl) (.tmp 11) rfl k rfl p4 (Lib.hid HP16.out) ?_ | refine wpList_load_peer (by kernel_rfl) (.tmp 5) rfl (s + 1 + 1) rfl t5 (Lib.hid HB16.out.t) ?_)
  refine (HM2.out _ HB16.out.b).mono ?_
  rintro e w17 ⟨rfl, hb⟩
  have HB17 : Hid (Bu w w17 s g p t5) := HB16.out.below hb
  have HC17 : Hid (CellsAt w17 k7 g.ar 49) := HC16.out.below hb HC16.out.lt
  have HP17 : Hid (CellsAt w17 k p4.ar 37) := HP16.out.below hb HP16.out.lt
  clear hb HB16 HC16 HP16
  have c2 : w17.cell? ⟨k, 22, none⟩ = some (.int .i64 p4.kind) := (HP17.out.c 22).trans rfl
  have c3 : w17.frozen? ⟨k, 22, none⟩ = false := HP17.out.unfrozen 22
  go_upto_region 18 with fail
  refine rb_name fun V18 hV18 => ?_
  have HB18 : Hid (Bu w V18 s g p t5) := by rw [hV18]; exact HB17.out.setO L.out _ _
  have HC18 : Hid (CellsAt V18 k7 g.ar 49) := by rw [hV18]; exact HC17.out.setX (Nat.ne_of_lt LC.out) _
  have HP18 : Hid (CellsAt V18 k p5.ar 37) := by rw [hV18, ← f5.out]; exact HP17.out.setAt 22 _
  clear hV18 c2 c3 HB17 HC17 HP17
  have c1 : V18.cell? ⟨s + 1, 22, none⟩ = some (.int .i64 p.kind) := (HB18.out.p.c 22).trans rfl
  obtain ⟨kd, hkd⟩ : ∃ x, x = p.kind := ⟨_, rfl⟩
  rw [← hkd] at c1
  clear hkd
  rcases beq_factsY kd 1 with ⟨j1, j2⟩ | ⟨j1, j2⟩
  · go_wp2_with fail
    go_ret
    exact ⟨rfl, HB18.out.b⟩
  · go_wp2_with (with_reducible show wpList _ _ _ (_ :: _) _ _; first | refine wpList_load_conf (by kernel_rfl) (.tmp 7) rfl k7 rfl g (Lib.hid HC18.out) ?_ | refine wpList_load_path (by kernel_rfl) (.tmp 11) rfl k rfl p5 (Lib.hid HP18.out) ?_ | refine wpList_load_peer (by kernel_rfl) (.tmp 5) rfl (s + 1 + 1) rfl t5 (Lib.hid HB18.out.t) ?_)
    refine (HM3.out _ HB18.out.b).mono ?_
    rintro e w19 ⟨rfl, hb⟩
    have HB19 : Hid (Bu w w19 s g p t5) := HB18.out.below hb
    clear hb c1
    go_wp2_with fail
    go_ret
    exact ⟨rfl, HB19.out.b⟩
end Go.Proofs.YtojiieghjhjoaaaGreat
