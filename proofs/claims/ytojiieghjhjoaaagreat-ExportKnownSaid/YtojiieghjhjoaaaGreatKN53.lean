/-
  Several texts in one.
-/
import Derived.Test.YtojiieghjhjoaaaGreatKN43
import Derived.Test.YtojiieghjhjoaaaGreatKN44
import Derived.Test.YtojiieghjhjoaaaGreatKN45
import Derived.Test.YtojiieghjhjoaaaGreatKN46
import Derived.Test.YtojiieghjhjoaaaGreatKN47
import Derived.Test.YtojiieghjhjoaaaGreatKN48
import Derived.Test.YtojiieghjhjoaaaGreatKN49
import Derived.Test.YtojiieghjhjoaaaGreatKN50
import Derived.Test.YtojiieghjhjoaaaGreatKN51
import Derived.Test.YtojiieghjhjoaaaGreatKN52
import Derived.BigRegion
set_option linter.unusedVariables false
set_option linter.unusedSimpArgs false
namespace Go.Proofs.YtojiieghjhjoaaaGreat
open Go.RowKit Go.MapKept Go.Shelf
open Go.Lib hiding intOf

set_option maxRecDepth 100000 in
set_option maxHeartbeats 32000000 in
theorem exportknown_walk (w : World) : Calls Tryz.prog 6 #[] w fun e w' => e = .returned (.bool true) ∧ Below w.heap.size w w' := by
  have HU := Lib.hid us_any
  have HCF := Lib.hid conf_any
  have HPA := Lib.hid path_any
  have HTA := Lib.hid to_any
  have HTO := Lib.hid told_any
  have HAT := Lib.hid attrs_any
  have HNX := Lib.hid next_any
  have HWK := Lib.hid works_any
  have HL0 := Lib.hid (Led.nil w)
  go_enter Tryz.func6, Tryz.ntmps6
  go_wp2_with fail
  refine (HU.out _).mono ?_
  rintro e w1 ⟨rfl, hb⟩
  have HL2 : Hid (Led w w1 []) := HL0.out.below hb
  clear hb HL0
  go_wp2_with fail
  refine (HCF.out g0 _).mono ?_
  rintro e w2 ⟨rfl, hb⟩
  have HL4 : Hid (Led w w2 []) := HL2.out.below hb
  clear hb HL2
  go_upto_region 2 with (with_reducible show wpList _ _ _ (_ :: _) _ _; refine wpList_new_row rfl _ (.tmp 1) (.tmp 38) rfl rfl g0.ar rfl 13 confZ rfl rfl (cfg_ones g0) ?_)
  intro V3 HC HB
  have HL5 : Hid (Led w V3 [Ent.box w2.heap.size g0.ar 49]) := HL4.out.push HC.out HB.out
  obtain ⟨k1, hk⟩ : ∃ k, k = w2.heap.size := ⟨_, rfl⟩
  rw [← hk] at HL5 ⊢
  clear hk HC HB HL4
  go_wp2_with fail
  refine (HPA.out 2 _ (by decide)).mono ?_
  rintro e w4 ⟨⟨b2, rfl, hp⟩, hb⟩
  have HL7 : Hid (Led w w4 [Ent.box k1 g0.ar 49]) := HL5.out.below hb
  clear hb HL5
  have HL8 : Hid (Led w w4 [Ent.fact w4.heap.size (fun W => PthOk W (mkPth 2 b2)), Ent.box k1 g0.ar 49]) := HL7.out.know (steady_pth _) hp
  clear HL7
  clear hp
  go_upto_region 3 with (with_reducible show wpList _ _ _ (_ :: _) _ _; refine wpList_new_row rfl _ (.tmp 2) (.tmp 39) rfl rfl (mkPth 2 b2).ar rfl 29 pathZ rfl rfl (pth_ones _) ?_)
  intro V5 HC HB
  have HL9 : Hid (Led w V5 [Ent.box w4.heap.size (mkPth 2 b2).ar 37, Ent.fact w4.heap.size (fun W => PthOk W (mkPth 2 b2)), Ent.box k1 g0.ar 49]) := HL8.out.push HC.out HB.out
  obtain ⟨k2, hk⟩ : ∃ k, k = w4.heap.size := ⟨_, rfl⟩
  rw [← hk] at HL9 ⊢
  clear hk HC HB HL8
  go_upto_region 3 with fail
  go_cut [3, 4] (fun v3 v4 wx => ∃ (k : Nat) (x : Atr), v3 = .pointer (some ⟨k, 0, none⟩) ∧ v4 = .bool false ∧ Hid (Led w wx (.fact wx.heap.size (fun W => AtrOk W x) :: .box k x.ar 33 :: [Ent.box k2 (mkPth 2 b2).ar 37, Ent.fact k2 (fun W => PthOk W (mkPth 2 b2)), Ent.box k1 g0.ar 49])))
  case first =>
    rename_i J K hJ hK
    refine wp_mono (draw_3 w _ _ HL9 k1 2 g0 rfl k2 0 (mkPth 2 b2) rfl 1 _ rfl g0_ok (fun c => told_K3 _ _) _ _ _ _ _ _ _ _ _ _ _ _ _ _ _ _ _ _ _ _ _ _ _ _ _ _ _ _ _ _ _ _ _ _ _ _ _ _ _ _ _ _ _ _ _ _ _ _ _ _ _ _ _ _ _ _ _ _ _ _ _ _ _ _ _ _ _ _ _ _ _ _ _ _ _ _ _ _ _ _ _ _ _ _ _ _ _ _ _ _ _ _ _ _ _ _ _ _ _ _ _ _ _ _ _ _ _ _ _ _ _ _ _ _ _ _ _ _ _ _ _ _ _ _ _ _ _ _ _ _ _ _ _ _ _ _ _ _ _ _ _ _ _ _ _ _ _ _ _ _ _ _ _ _ _ _ _ _ _ _ _ _ _ _ _ _ _ _ _ _ _ _ _ _ _ _ _ _ _ _ _ _ _ _ _ _ _ _ _ _ _ _ _ _ _ _ _ _ _ _ _ _ _ _ _ _ _ _ _ _ _ _ _ _ _ _ _ _ _ _ _ _ _ _ _ _ _ _ _ _ _ _ _ _ _ _ _ _ _ _ _ _ _ _ _ _ _ _ _ _ _ _ _ _ _ _ _ _ _ _ _ _ _ _ _ _ _ _ _ _ _ _ _ _) ?_
    rintro e a' w' ⟨rfl, k, x, d40, d41, d42, d43, d44, d45, d46, rfl, hxx⟩
    refine hK _ _ (Met.intro (hJ _ _ ?_))
    (repeat apply Exists.intro)
    refine ⟨?_, rfl⟩
    exact ⟨k, x, rfl, rfl, hxx⟩
  case rest =>
  obtain ⟨k3, x3, rfl, rfl, hl3⟩ := hcut
  obtain ⟨V6, hwc⟩ : ∃ x, x = wc := ⟨_, rfl⟩
  rw [← hwc] at hl3 ⊢
  clear hwc
  have HL10 : Hid (Led w V6 [Ent.box k2 (mkPth 2 b2).ar 37, Ent.fact k2 (fun W => PthOk W (mkPth 2 b2)), Ent.box k1 g0.ar 49]) := hl3.out.sub ((List.sublist_cons_self _ _).trans (List.sublist_cons_self _ _))
  clear hl3 HL9
  go_wp2_with fail
  refine (HTA.out ⟨#[100]⟩ 65002 _ (by decide) (by decide)).mono ?_
  rintro e w7 ⟨⟨b5, rfl, hp⟩, hb⟩
  have HL12 : Hid (Led w w7 [Ent.box k2 (mkPth 2 b2).ar 37, Ent.fact k2 (fun W => PthOk W (mkPth 2 b2)), Ent.box k1 g0.ar 49]) := HL10.out.below hb
  clear hb HL10
  clear hp
  go_upto_region 5 with (with_reducible show wpList _ _ _ (_ :: _) _ _; refine wpList_new_row rfl _ (.tmp 5) (.tmp 47) rfl rfl (mkPr ⟨#[100]⟩ 65002 b5).ar rfl 23 peerZ rfl rfl (pr_ones _) ?_)
  intro V8 HC HB
  have HL13 : Hid (Led w V8 [Ent.box w7.heap.size (mkPr ⟨#[100]⟩ 65002 b5).ar 40, Ent.box k2 (mkPth 2 b2).ar 37, Ent.fact k2 (fun W => PthOk W (mkPth 2 b2)), Ent.box k1 g0.ar 49]) := HL12.out.push HC.out HB.out
  obtain ⟨k5, hk⟩ : ∃ k, k = w7.heap.size := ⟨_, rfl⟩
  rw [← hk] at HL13 ⊢
  clear hk HC HB HL12
  have c2 : (V8.alloc (.cells #[.int .i64 2] 3)).cell? ⟨k5, 12, none⟩ = some (.slice (some ⟨b5, 0, none⟩) 1 1) := (((HL13.out.box 0 rfl).alloc (.cells #[.int .i64 2] 3)).c 12).trans rfl
  have c3 : (V8.alloc (.cells #[.int .i64 2] 3)).frozen? ⟨k5, 12, none⟩ = false := ((HL13.out.box 0 rfl).alloc (.cells #[.int .i64 2] 3)).unfrozen 12
  go_upto_region 6 with fail
  refine rb_name fun V9 hV => ?_
  obtain ⟨six, hsix⟩ : ∃ x : Pr, x = { (mkPr ⟨#[100]⟩ 65002 b5) with fA := some ⟨V8.heap.size, 0, none⟩, fams := [2] } := ⟨_, rfl⟩
  have HL14 : Hid (Led w V9 [Ent.box k5 six.ar 40, Ent.box k2 (mkPth 2 b2).ar 37, Ent.fact k2 (fun W => PthOk W (mkPth 2 b2)), Ent.box k1 g0.ar 49]) := by
    rw [hV]
    refine Led.set (l1 := []) (HL13.out.below (below1 _ _)) (fun e he => by cases he) (grown_setCell _ ⟨k5, 12, none⟩ _) ?_
    have h := ((HL13.out.box 0 rfl).alloc (.cells #[.int .i64 2] 3)).setAt 12 (.slice (some ⟨V8.heap.size, 0, none⟩) 1 1)
    rw [hsix]
    exact h
  have hrs : PrOk V9 six := by
    rw [hV, hsix]
    exact pr_fams (p := mkPr ⟨#[100]⟩ 65002 b5) ((CellsAt.new V8 #[.int .i64 2] 3).setX (Nat.ne_of_gt (HL13.out.box 0 rfl).lt) _) (show (1 : Nat) ≤ 9223372036854775807 by decide) (show 65002 < 4294967296 by decide)
  clear c2 c3 hV HL13
  have HL15 : Hid (Led w V9 [Ent.fact V9.heap.size (fun W => PrOk W six), Ent.box k5 six.ar 40, Ent.box k2 (mkPth 2 b2).ar 37, Ent.fact k2 (fun W => PthOk W (mkPth 2 b2)), Ent.box k1 g0.ar 49]) := HL14.out.know (steady_pr _) hrs
  clear HL14
  clear hrs
  have HSIX := Lib.hid hsix
  clear hsix
  go_wp2_with (with_reducible show wpList _ _ _ (_ :: _) _ _; first | refine wpList_load_conf (by kernel_rfl) (.tmp 1) rfl k1 rfl g0 (Lib.hid (HL15.out.box 4 rfl)) ?_ | refine wpList_load_path (by kernel_rfl) (.tmp 2) rfl k2 rfl (mkPth 2 b2) (Lib.hid (HL15.out.box 2 rfl)) ?_ | refine wpList_load_peer (by kernel_rfl) (.tmp 5) rfl k5 rfl six (Lib.hid (HL15.out.box 1 rfl)) ?_)
  refine (HTO.out g0 (mkPth 2 b2) six _ g0_ok (HL15.out.fact 3 rfl) (HL15.out.fact 0 rfl)).mono ?_
  rintro e w10 ⟨x6, rfl, ho, hc, hb⟩
  rw [told_K6 b2 six _ _ HSIX.out]
  have HL17 : Hid (Led w w10 [Ent.fact V9.heap.size (fun W => PrOk W six), Ent.box k5 six.ar 40, Ent.box k2 (mkPth 2 b2).ar 37, Ent.fact k2 (fun W => PthOk W (mkPth 2 b2)), Ent.box k1 g0.ar 49]) := HL15.out.below hb
  clear hb HL15
  clear ho hc
  go_upto_region 7 with (with_reducible show wpList _ _ _ (_ :: _) _ _; refine wpList_new_row rfl _ (.tmp 6) (.tmp 55) rfl rfl x6.ar rfl 16 atZ rfl rfl (attrs_ones _) ?_)
  intro V11 HC HB
  have HL18 : Hid (Led w V11 [Ent.box w10.heap.size x6.ar 33, Ent.fact V9.heap.size (fun W => PrOk W six), Ent.box k5 six.ar 40, Ent.box k2 (mkPth 2 b2).ar 37, Ent.fact k2 (fun W => PthOk W (mkPth 2 b2)), Ent.box k1 g0.ar 49]) := HL17.out.push HC.out HB.out
  obtain ⟨k6, hk⟩ : ∃ k, k = w10.heap.size := ⟨_, rfl⟩
  rw [← hk] at HL18 ⊢
  clear hk HC HB HL17
  have HL19 : Hid (Led w V11 [Ent.box k2 (mkPth 2 b2).ar 37, Ent.fact k2 (fun W => PthOk W (mkPth 2 b2)), Ent.box k1 g0.ar 49]) := HL18.out.sub (.cons _ (.cons _ (.cons _ (.cons_cons _ (.cons_cons _ (.cons_cons _ (List.Sublist.refl [])))))))
  clear HL18
  clear HSIX
  go_wp2_with fail
  refine (HPA.out 2 _ (by decide)).mono ?_
  rintro e w12 ⟨⟨b8, rfl, hp⟩, hb⟩
  have HL21 : Hid (Led w w12 [Ent.box k2 (mkPth 2 b2).ar 37, Ent.fact k2 (fun W => PthOk W (mkPth 2 b2)), Ent.box k1 g0.ar 49]) := HL19.out.below hb
  clear hb HL19
  have HL22 : Hid (Led w w12 [Ent.fact w12.heap.size (fun W => PthOk W (mkPth 2 b8)), Ent.box k2 (mkPth 2 b2).ar 37, Ent.fact k2 (fun W => PthOk W (mkPth 2 b2)), Ent.box k1 g0.ar 49]) := HL21.out.know (steady_pth _) hp
  clear HL21
  clear hp
  go_upto_region 8 with (with_reducible show wpList _ _ _ (_ :: _) _ _; refine wpList_new_row rfl _ (.tmp 8) (.tmp 57) rfl rfl (mkPth 2 b8).ar rfl 29 pathZ rfl rfl (pth_ones _) ?_)
  intro V13 HC HB
  have HL23 : Hid (Led w V13 [Ent.box w12.heap.size (mkPth 2 b8).ar 37, Ent.fact w12.heap.size (fun W => PthOk W (mkPth 2 b8)), Ent.box k2 (mkPth 2 b2).ar 37, Ent.fact k2 (fun W => PthOk W (mkPth 2 b2)), Ent.box k1 g0.ar 49]) := HL22.out.push HC.out HB.out
  obtain ⟨k8, hk⟩ : ∃ k, k = w12.heap.size := ⟨_, rfl⟩
  rw [← hk] at HL23 ⊢
  clear hk HC HB HL22
  have c2 : (V13.alloc (.cells #[.int .u32 4294967041] 22)).cell? ⟨k8, 16, none⟩ = some (.slice none 0 0) := (((HL23.out.box 0 rfl).alloc (.cells #[.int .u32 4294967041] 22)).c 16).trans rfl
  have c3 : (V13.alloc (.cells #[.int .u32 4294967041] 22)).frozen? ⟨k8, 16, none⟩ = false := ((HL23.out.box 0 rfl).alloc (.cells #[.int .u32 4294967041] 22)).unfrozen 16
  go_upto_region 9 with fail
  refine rb_name fun V14 hV => ?_
  obtain ⟨q, hq⟩ : ∃ x : Pth, x = pcom (mkPth 2 b8) V13.heap.size 4294967041 := ⟨_, rfl⟩
  have HL24 : Hid (Led w V14 [Ent.box k8 q.ar 37, Ent.fact k8 (fun W => PthOk W (mkPth 2 b8)), Ent.box k2 (mkPth 2 b2).ar 37, Ent.fact k2 (fun W => PthOk W (mkPth 2 b2)), Ent.box k1 g0.ar 49]) := by
    rw [hV]
    refine Led.set (l1 := []) (HL23.out.below (below1 _ _)) (fun e he => by cases he) (grown_setCell _ ⟨k8, 16, none⟩ _) ?_
    have h := ((HL23.out.box 0 rfl).alloc (.cells #[.int .u32 4294967041] 22)).setAt 16 (.slice (some ⟨V13.heap.size, 0, none⟩) 1 1)
    rw [hq]
    exact h
  have hrs : PthOk V14 q := by
    have h0 : PthOk V14 (mkPth 2 b8) := HL24.out.fact 1 rfl
    rw [hV] at h0 ⊢
    rw [hq]
    exact pcom_ok h0 ((CellsAt.new V13 #[.int .u32 4294967041] 22).setX (Nat.ne_of_gt (HL23.out.box 0 rfl).lt) _) (by decide)
  clear c2 c3 hV HL23
  have HL25 : Hid (Led w V14 [Ent.fact V14.heap.size (fun W => PthOk W q), Ent.box k8 q.ar 37, Ent.fact k8 (fun W => PthOk W (mkPth 2 b8)), Ent.box k2 (mkPth 2 b2).ar 37, Ent.fact k2 (fun W => PthOk W (mkPth 2 b2)), Ent.box k1 g0.ar 49]) := HL24.out.know (steady_pth _) hrs
  clear HL24
  clear hrs
  have HQ := Lib.hid hq
  clear hq
  go_upto_region 9 with fail
  go_cut [9, 10] (fun v3 v4 wx => ∃ (k : Nat) (x : Atr), v3 = .pointer (some ⟨k, 0, none⟩) ∧ v4 = .bool false ∧ Hid (Led w wx (.fact wx.heap.size (fun W => AtrOk W x) :: .box k x.ar 33 :: [Ent.fact V14.heap.size (fun W => PthOk W q), Ent.box k8 q.ar 37, Ent.fact k8 (fun W => PthOk W (mkPth 2 b8)), Ent.box k2 (mkPth 2 b2).ar 37, Ent.fact k2 (fun W => PthOk W (mkPth 2 b2)), Ent.box k1 g0.ar 49])))
  case first =>
    rename_i J K hJ hK
    refine wp_mono (draw_9 w _ _ HL25 k1 5 g0 rfl k8 1 q rfl 0 _ rfl g0_ok (fun c => told_K9 _ q _ _ HQ.out) _ _ _ _ _ _ _ _ _ _ _ _ _ _ _ _ _ _ _ _ _ _ _ _ _ _ _ _ _ _ _ _ _ _ _ _ _ _ _ _ _ _ _ _ _ _ _ _ _ _ _ _ _ _ _ _ _ _ _ _ _ _ _ _ _ _ _ _ _ _ _ _ _ _ _ _ _ _ _ _ _ _ _ _ _ _ _ _ _ _ _ _ _ _ _ _ _ _ _ _ _ _ _ _ _ _ _ _ _ _ _ _ _ _ _ _ _ _ _ _ _ _ _ _ _ _ _ _ _ _ _ _ _ _ _ _ _ _ _ _ _ _ _ _ _ _ _ _ _ _ _ _ _ _ _ _ _ _ _ _ _ _ _ _ _ _ _ _ _ _ _ _ _ _ _ _ _ _ _ _ _ _ _ _ _ _ _ _ _ _ _ _ _ _ _ _ _ _ _ _ _ _ _ _ _ _ _ _ _ _ _ _ _ _ _ _ _ _ _ _ _ _ _ _ _ _ _ _ _ _ _ _ _ _ _ _ _ _ _ _ _ _ _ _ _ _ _ _ _ _ _ _ _ _ _ _ _ _ _ _ _ _ _ _ _ _ _ _ _ _ _ _ _ _) ?_
    rintro e a' w' ⟨rfl, k, x, d61, d62, d63, d64, d65, d66, d67, rfl, hxx⟩
    refine hK _ _ (Met.intro (hJ _ _ ?_))
    (repeat apply Exists.intro)
    refine ⟨?_, rfl⟩
    exact ⟨k, x, rfl, rfl, hxx⟩
  case rest =>
  obtain ⟨k9, x9, rfl, rfl, hl9⟩ := hcut
  obtain ⟨V15, hwc⟩ : ∃ x, x = wc := ⟨_, rfl⟩
  rw [← hwc] at hl9 ⊢
  clear hwc
  have HL26 : Hid (Led w V15 [Ent.fact V14.heap.size (fun W => PthOk W q), Ent.box k8 q.ar 37, Ent.fact k8 (fun W => PthOk W (mkPth 2 b8)), Ent.box k2 (mkPth 2 b2).ar 37, Ent.fact k2 (fun W => PthOk W (mkPth 2 b2)), Ent.box k1 g0.ar 49]) := hl9.out.sub ((List.sublist_cons_self _ _).trans (List.sublist_cons_self _ _))
  clear hl9 HL25
  as_aux_lemma =>
  go_upto_region 10 with fail
  go_cut [11, 12] (fun v3 v4 wx => ∃ (k : Nat) (x : Atr), v3 = .pointer (some ⟨k, 0, none⟩) ∧ v4 = .bool true ∧ Hid (Led w wx (.fact wx.heap.size (fun W => AtrOk W x) :: .box k x.ar 33 :: [Ent.fact V14.heap.size (fun W => PthOk W q), Ent.box k8 q.ar 37, Ent.fact k8 (fun W => PthOk W (mkPth 2 b8)), Ent.box k2 (mkPth 2 b2).ar 37, Ent.fact k2 (fun W => PthOk W (mkPth 2 b2)), Ent.box k1 g0.ar 49])))
  case first =>
    rename_i J K hJ hK
    refine wp_mono (draw_10 w _ _ HL26 k1 5 g0 rfl k8 1 q rfl 0 _ rfl g0_ok (fun c => told_K10 _ q _ _ HQ.out) _ _ _ _ _ _ _ _ _ _ _ _ _ _ _ _ _ _ _ _ _ _ _ _ _ _ _ _ _ _ _ _ _ _ _ _ _ _ _ _ _ _ _ _ _ _ _ _ _ _ _ _ _ _ _ _ _ _ _ _ _ _ _ _ _ _ _ _ _ _ _ _ _ _ _ _ _ _ _ _ _ _ _ _ _ _ _ _ _ _ _ _ _ _ _ _ _ _ _ _ _ _ _ _ _ _ _ _ _ _ _ _ _ _ _ _ _ _ _ _ _ _ _ _ _ _ _ _ _ _ _ _ _ _ _ _ _ _ _ _ _ _ _ _ _ _ _ _ _ _ _ _ _ _ _ _ _ _ _ _ _ _ _ _ _ _ _ _ _ _ _ _ _ _ _ _ _ _ _ _ _ _ _ _ _ _ _ _ _ _ _ _ _ _ _ _ _ _ _ _ _ _ _ _ _ _ _ _ _ _ _ _ _ _ _ _ _ _ _ _ _ _ _ _ _ _ _ _ _ _ _ _ _ _ _ _ _ _ _ _ _ _ _ _ _ _ _ _ _ _ _ _ _ _ _ _ _ _ _ _ _ _ _ _ _ _ _ _ _ _ _ _ _ _) ?_
    rintro e a' w' ⟨rfl, k, x, d68, d69, d70, d71, d72, d73, d74, rfl, hxx⟩
    refine hK _ _ (Met.intro (hJ _ _ ?_))
    (repeat apply Exists.intro)
    refine ⟨?_, rfl⟩
    exact ⟨k, x, rfl, rfl, hxx⟩
  case rest =>
  obtain ⟨k11, x11, rfl, rfl, hl11⟩ := hcut
  obtain ⟨V16, hwc⟩ : ∃ x, x = wc := ⟨_, rfl⟩
  rw [← hwc] at hl11 ⊢
  clear hwc
  have HL27 : Hid (Led w V16 [Ent.fact V14.heap.size (fun W => PthOk W q), Ent.box k8 q.ar 37, Ent.fact k8 (fun W => PthOk W (mkPth 2 b8)), Ent.box k2 (mkPth 2 b2).ar 37, Ent.fact k2 (fun W => PthOk W (mkPth 2 b2)), Ent.box k1 g0.ar 49]) := hl11.out.sub ((List.sublist_cons_self _ _).trans (List.sublist_cons_self _ _))
  clear hl11 HL26
  have HL28 : Hid (Led w V16 [Ent.box k8 q.ar 37, Ent.fact k8 (fun W => PthOk W (mkPth 2 b8)), Ent.box k2 (mkPth 2 b2).ar 37, Ent.fact k2 (fun W => PthOk W (mkPth 2 b2)), Ent.box k1 g0.ar 49]) := HL27.out.sub (.cons _ (.cons_cons _ (.cons_cons _ (.cons_cons _ (.cons_cons _ (.cons_cons _ (List.Sublist.refl [])))))))
  clear HL27
  have c2 : (V16.alloc (.cells #[.int .u32 4294967042] 22)).cell? ⟨k8, 16, none⟩ = some (.slice q.a.mA q.a.comms.length q.a.mC) := (((HL28.out.box 0 rfl).alloc (.cells #[.int .u32 4294967042] 22)).c 16).trans rfl
  have c3 : (V16.alloc (.cells #[.int .u32 4294967042] 22)).frozen? ⟨k8, 16, none⟩ = false := ((HL28.out.box 0 rfl).alloc (.cells #[.int .u32 4294967042] 22)).unfrozen 16
  go_upto_region 12 with fail
  refine rb_name fun V17 hV => ?_
  obtain ⟨r, hr⟩ : ∃ x : Pth, x = pcom (mkPth 2 b8) V16.heap.size 4294967042 := ⟨_, rfl⟩
  have HL29 : Hid (Led w V17 [Ent.box k8 r.ar 37, Ent.fact k8 (fun W => PthOk W (mkPth 2 b8)), Ent.box k2 (mkPth 2 b2).ar 37, Ent.fact k2 (fun W => PthOk W (mkPth 2 b2)), Ent.box k1 g0.ar 49]) := by
    rw [hV]
    refine Led.set (l1 := []) (HL28.out.below (below1 _ _)) (fun e he => by cases he) (grown_setCell _ ⟨k8, 16, none⟩ _) ?_
    have h := ((HL28.out.box 0 rfl).alloc (.cells #[.int .u32 4294967042] 22)).setAt 16 (.slice (some ⟨V16.heap.size, 0, none⟩) 1 1)
    rw [hr]
    rw [HQ.out] at h
    exact h
  have hrs : PthOk V17 r := by
    have h0 : PthOk V17 (mkPth 2 b8) := HL29.out.fact 1 rfl
    rw [hV] at h0 ⊢
    rw [hr]
    exact pcom_ok h0 ((CellsAt.new V16 #[.int .u32 4294967042] 22).setX (Nat.ne_of_gt (HL28.out.box 0 rfl).lt) _) (by decide)
  clear c2 c3 hV HL28
  have HL30 : Hid (Led w V17 [Ent.fact V17.heap.size (fun W => PthOk W r), Ent.box k8 r.ar 37, Ent.fact k8 (fun W => PthOk W (mkPth 2 b8)), Ent.box k2 (mkPth 2 b2).ar 37, Ent.fact k2 (fun W => PthOk W (mkPth 2 b2)), Ent.box k1 g0.ar 49]) := HL29.out.know (steady_pth _) hrs
  clear HL29
  clear hrs
  have HR := Lib.hid hr
  clear hr
  clear HQ
  go_upto_region 12 with fail
  go_cut [13, 14] (fun v3 v4 wx => ∃ (k : Nat) (x : Atr), v3 = .pointer (some ⟨k, 0, none⟩) ∧ v4 = .bool false ∧ Hid (Led w wx (.fact wx.heap.size (fun W => AtrOk W x) :: .box k x.ar 33 :: [Ent.fact V17.heap.size (fun W => PthOk W r), Ent.box k8 r.ar 37, Ent.fact k8 (fun W => PthOk W (mkPth 2 b8)), Ent.box k2 (mkPth 2 b2).ar 37, Ent.fact k2 (fun W => PthOk W (mkPth 2 b2)), Ent.box k1 g0.ar 49])))
  case first =>
    rename_i J K hJ hK
    refine wp_mono (draw_12 w _ _ HL30 k1 5 g0 rfl k8 1 r rfl 0 _ rfl g0_ok (fun c => told_K12 _ r _ _ HR.out) _ _ _ _ _ _ _ _ _ _ _ _ _ _ _ _ _ _ _ _ _ _ _ _ _ _ _ _ _ _ _ _ _ _ _ _ _ _ _ _ _ _ _ _ _ _ _ _ _ _ _ _ _ _ _ _ _ _ _ _ _ _ _ _ _ _ _ _ _ _ _ _ _ _ _ _ _ _ _ _ _ _ _ _ _ _ _ _ _ _ _ _ _ _ _ _ _ _ _ _ _ _ _ _ _ _ _ _ _ _ _ _ _ _ _ _ _ _ _ _ _ _ _ _ _ _ _ _ _ _ _ _ _ _ _ _ _ _ _ _ _ _ _ _ _ _ _ _ _ _ _ _ _ _ _ _ _ _ _ _ _ _ _ _ _ _ _ _ _ _ _ _ _ _ _ _ _ _ _ _ _ _ _ _ _ _ _ _ _ _ _ _ _ _ _ _ _ _ _ _ _ _ _ _ _ _ _ _ _ _ _ _ _ _ _ _ _ _ _ _ _ _ _ _ _ _ _ _ _ _ _ _ _ _ _ _ _ _ _ _ _ _ _ _ _ _ _ _ _ _ _ _ _ _ _ _ _ _ _ _ _ _ _ _ _ _ _ _ _ _ _ _ _ _) ?_
    rintro e a' w' ⟨rfl, k, x, d78, d79, d80, d81, d82, d83, d84, rfl, hxx⟩
    refine hK _ _ (Met.intro (hJ _ _ ?_))
    (repeat apply Exists.intro)
    refine ⟨?_, rfl⟩
    exact ⟨k, x, rfl, rfl, hxx⟩
  case rest =>
  obtain ⟨k13, x13, rfl, rfl, hl13⟩ := hcut
  obtain ⟨V18, hwc⟩ : ∃ x, x = wc := ⟨_, rfl⟩
  rw [← hwc] at hl13 ⊢
  clear hwc
  have HL31 : Hid (Led w V18 [Ent.fact V17.heap.size (fun W => PthOk W r), Ent.box k8 r.ar 37, Ent.fact k8 (fun W => PthOk W (mkPth 2 b8)), Ent.box k2 (mkPth 2 b2).ar 37, Ent.fact k2 (fun W => PthOk W (mkPth 2 b2)), Ent.box k1 g0.ar 49]) := hl13.out.sub ((List.sublist_cons_self _ _).trans (List.sublist_cons_self _ _))
  clear hl13 HL30
  as_aux_lemma =>
  have HL32 : Hid (Led w V18 [Ent.box k2 (mkPth 2 b2).ar 37, Ent.fact k2 (fun W => PthOk W (mkPth 2 b2)), Ent.box k1 g0.ar 49]) := HL31.out.sub (.cons _ (.cons _ (.cons _ (.cons_cons _ (.cons_cons _ (.cons_cons _ (List.Sublist.refl [])))))))
  clear HL31
  clear HR
  go_wp2_with fail
  refine (HPA.out 4 _ (by decide)).mono ?_
  rintro e w19 ⟨⟨b15, rfl, hp⟩, hb⟩
  have HL34 : Hid (Led w w19 [Ent.box k2 (mkPth 2 b2).ar 37, Ent.fact k2 (fun W => PthOk W (mkPth 2 b2)), Ent.box k1 g0.ar 49]) := HL32.out.below hb
  clear hb HL32
  have HL35 : Hid (Led w w19 [Ent.fact w19.heap.size (fun W => PthOk W (mkPth 4 b15)), Ent.box k2 (mkPth 2 b2).ar 37, Ent.fact k2 (fun W => PthOk W (mkPth 2 b2)), Ent.box k1 g0.ar 49]) := HL34.out.know (steady_pth _) hp
  clear HL34
  clear hp
  go_upto_region 14 with (with_reducible show wpList _ _ _ (_ :: _) _ _; refine wpList_new_row rfl _ (.tmp 15) (.tmp 85) rfl rfl (mkPth 4 b15).ar rfl 29 pathZ rfl rfl (pth_ones _) ?_)
  intro V20 HC HB
  have HL36 : Hid (Led w V20 [Ent.box w19.heap.size (mkPth 4 b15).ar 37, Ent.fact w19.heap.size (fun W => PthOk W (mkPth 4 b15)), Ent.box k2 (mkPth 2 b2).ar 37, Ent.fact k2 (fun W => PthOk W (mkPth 2 b2)), Ent.box k1 g0.ar 49]) := HL35.out.push HC.out HB.out
  obtain ⟨k15, hk⟩ : ∃ k, k = w19.heap.size := ⟨_, rfl⟩
  rw [← hk] at HL36 ⊢
  clear hk HC HB HL35
  go_upto_region 14 with fail
  go_cut [16, 17] (fun v3 v4 wx => ∃ (k : Nat) (x : Atr), v3 = .pointer (some ⟨k, 0, none⟩) ∧ v4 = .bool false ∧ Hid (Led w wx (.fact wx.heap.size (fun W => AtrOk W x) :: .box k x.ar 33 :: [Ent.box k15 (mkPth 4 b15).ar 37, Ent.fact k15 (fun W => PthOk W (mkPth 4 b15)), Ent.box k2 (mkPth 2 b2).ar 37, Ent.fact k2 (fun W => PthOk W (mkPth 2 b2)), Ent.box k1 g0.ar 49])))
  case first =>
    rename_i J K hJ hK
    refine wp_mono (draw_14 w _ _ HL36 k1 4 g0 rfl k15 0 (mkPth 4 b15) rfl 1 _ rfl g0_ok (fun c => told_K14 _ _) _ _ _ _ _ _ _ _ _ _ _ _ _ _ _ _ _ _ _ _ _ _ _ _ _ _ _ _ _ _ _ _ _ _ _ _ _ _ _ _ _ _ _ _ _ _ _ _ _ _ _ _ _ _ _ _ _ _ _ _ _ _ _ _ _ _ _ _ _ _ _ _ _ _ _ _ _ _ _ _ _ _ _ _ _ _ _ _ _ _ _ _ _ _ _ _ _ _ _ _ _ _ _ _ _ _ _ _ _ _ _ _ _ _ _ _ _ _ _ _ _ _ _ _ _ _ _ _ _ _ _ _ _ _ _ _ _ _ _ _ _ _ _ _ _ _ _ _ _ _ _ _ _ _ _ _ _ _ _ _ _ _ _ _ _ _ _ _ _ _ _ _ _ _ _ _ _ _ _ _ _ _ _ _ _ _ _ _ _ _ _ _ _ _ _ _ _ _ _ _ _ _ _ _ _ _ _ _ _ _ _ _ _ _ _ _ _ _ _ _ _ _ _ _ _ _ _ _ _ _ _ _ _ _ _ _ _ _ _ _ _ _ _ _ _ _ _ _ _ _ _ _ _ _ _ _ _ _ _ _ _ _ _ _ _ _ _ _ _ _ _ _ _ _) ?_
    rintro e a' w' ⟨rfl, k, x, d86, d87, d88, d89, d90, d91, d92, rfl, hxx⟩
    refine hK _ _ (Met.intro (hJ _ _ ?_))
    (repeat apply Exists.intro)
    refine ⟨?_, rfl⟩
    exact ⟨k, x, rfl, rfl, hxx⟩
  case rest =>
  obtain ⟨k16, x16, rfl, rfl, hl16⟩ := hcut
  obtain ⟨V21, hwc⟩ : ∃ x, x = wc := ⟨_, rfl⟩
  rw [← hwc] at hl16 ⊢
  clear hwc
  have HL37 : Hid (Led w V21 [Ent.box k15 (mkPth 4 b15).ar 37, Ent.fact k15 (fun W => PthOk W (mkPth 4 b15)), Ent.box k2 (mkPth 2 b2).ar 37, Ent.fact k2 (fun W => PthOk W (mkPth 2 b2)), Ent.box k1 g0.ar 49]) := hl16.out.sub ((List.sublist_cons_self _ _).trans (List.sublist_cons_self _ _))
  clear hl16 HL36
  as_aux_lemma =>
  go_wp2_with fail
  refine (HTA.out ⟨#[101]⟩ 65000 _ (by decide) (by decide)).mono ?_
  rintro e w22 ⟨⟨b18, rfl, hp⟩, hb⟩
  have HL39 : Hid (Led w w22 [Ent.box k15 (mkPth 4 b15).ar 37, Ent.fact k15 (fun W => PthOk W (mkPth 4 b15)), Ent.box k2 (mkPth 2 b2).ar 37, Ent.fact k2 (fun W => PthOk W (mkPth 2 b2)), Ent.box k1 g0.ar 49]) := HL37.out.below hb
  clear hb HL37
  have HL40 : Hid (Led w w22 [Ent.fact w22.heap.size (fun W => PrOk W (mkPr ⟨#[101]⟩ 65000 b18)), Ent.box k15 (mkPth 4 b15).ar 37, Ent.fact k15 (fun W => PthOk W (mkPth 4 b15)), Ent.box k2 (mkPth 2 b2).ar 37, Ent.fact k2 (fun W => PthOk W (mkPth 2 b2)), Ent.box k1 g0.ar 49]) := HL39.out.know (steady_pr _) hp
  clear HL39
  clear hp
  go_upto_region 16 with (with_reducible show wpList _ _ _ (_ :: _) _ _; refine wpList_new_row rfl _ (.tmp 18) (.tmp 93) rfl rfl (mkPr ⟨#[101]⟩ 65000 b18).ar rfl 23 peerZ rfl rfl (pr_ones _) ?_)
  intro V23 HC HB
  have HL41 : Hid (Led w V23 [Ent.box w22.heap.size (mkPr ⟨#[101]⟩ 65000 b18).ar 40, Ent.fact w22.heap.size (fun W => PrOk W (mkPr ⟨#[101]⟩ 65000 b18)), Ent.box k15 (mkPth 4 b15).ar 37, Ent.fact k15 (fun W => PthOk W (mkPth 4 b15)), Ent.box k2 (mkPth 2 b2).ar 37, Ent.fact k2 (fun W => PthOk W (mkPth 2 b2)), Ent.box k1 g0.ar 49]) := HL40.out.push HC.out HB.out
  obtain ⟨k18, hk⟩ : ∃ k, k = w22.heap.size := ⟨_, rfl⟩
  rw [← hk] at HL41 ⊢
  clear hk HC HB HL40
  have c2 : V23.cell? ⟨k18, 10, none⟩ = some (.bool false) := ((HL41.out.box 0 rfl).c 10).trans rfl
  have c3 : V23.frozen? ⟨k18, 10, none⟩ = false := (HL41.out.box 0 rfl).unfrozen 10
  go_upto_region 17 with fail
  refine rb_name fun V24 hV => ?_
  obtain ⟨cl, hcl⟩ : ∃ x : Pr, x = { (mkPr ⟨#[101]⟩ 65000 b18) with client := true } := ⟨_, rfl⟩
  have HL42 : Hid (Led w V24 [Ent.box k18 cl.ar 40, Ent.fact k18 (fun W => PrOk W (mkPr ⟨#[101]⟩ 65000 b18)), Ent.box k15 (mkPth 4 b15).ar 37, Ent.fact k15 (fun W => PthOk W (mkPth 4 b15)), Ent.box k2 (mkPth 2 b2).ar 37, Ent.fact k2 (fun W => PthOk W (mkPth 2 b2)), Ent.box k1 g0.ar 49]) := by
    rw [hV]
    refine Led.set (l1 := []) HL41.out (fun e he => by cases he) (grown_setCell _ ⟨k18, 10, none⟩ _) ?_
    have h := (HL41.out.box 0 rfl).setAt 10 (.bool true)
    rw [hcl]
    exact h
  have hrs : PrOk V24 cl := by
    have h0 : PrOk V24 (mkPr ⟨#[101]⟩ 65000 b18) := HL42.out.fact 1 rfl
    rw [hcl]
    exact ⟨h0.rd, h0.len, h0.cap, h0.name, h0.as_⟩
  clear c2 c3 hV HL41
  have HL43 : Hid (Led w V24 [Ent.fact V24.heap.size (fun W => PrOk W cl), Ent.box k18 cl.ar 40, Ent.fact k18 (fun W => PrOk W (mkPr ⟨#[101]⟩ 65000 b18)), Ent.box k15 (mkPth 4 b15).ar 37, Ent.fact k15 (fun W => PthOk W (mkPth 4 b15)), Ent.box k2 (mkPth 2 b2).ar 37, Ent.fact k2 (fun W => PthOk W (mkPth 2 b2)), Ent.box k1 g0.ar 49]) := HL42.out.know (steady_pr _) hrs
  clear HL42
  clear hrs
  have HCL := Lib.hid hcl
  clear hcl
  go_wp2_with (with_reducible show wpList _ _ _ (_ :: _) _ _; first | refine wpList_load_conf (by kernel_rfl) (.tmp 1) rfl k1 rfl g0 (Lib.hid (HL43.out.box 7 rfl)) ?_ | refine wpList_load_path (by kernel_rfl) (.tmp 15) rfl k15 rfl (mkPth 4 b15) (Lib.hid (HL43.out.box 3 rfl)) ?_ | refine wpList_load_peer (by kernel_rfl) (.tmp 18) rfl k18 rfl cl (Lib.hid (HL43.out.box 1 rfl)) ?_)
  refine (HTO.out g0 (mkPth 4 b15) cl _ g0_ok (HL43.out.fact 4 rfl) (HL43.out.fact 0 rfl)).mono ?_
  rintro e w25 ⟨x19, rfl, ho, hc, hb⟩
  rw [told_K17 _ cl _ HCL.out]
  have HL45 : Hid (Led w w25 [Ent.fact V24.heap.size (fun W => PrOk W cl), Ent.box k18 cl.ar 40, Ent.fact k18 (fun W => PrOk W (mkPr ⟨#[101]⟩ 65000 b18)), Ent.box k15 (mkPth 4 b15).ar 37, Ent.fact k15 (fun W => PthOk W (mkPth 4 b15)), Ent.box k2 (mkPth 2 b2).ar 37, Ent.fact k2 (fun W => PthOk W (mkPth 2 b2)), Ent.box k1 g0.ar 49]) := HL43.out.below hb
  clear hb HL43
  have HL46 : Hid (Led w w25 [Ent.fact w25.heap.size (fun W => AtrOk W x19), Ent.fact V24.heap.size (fun W => PrOk W cl), Ent.box k18 cl.ar 40, Ent.fact k18 (fun W => PrOk W (mkPr ⟨#[101]⟩ 65000 b18)), Ent.box k15 (mkPth 4 b15).ar 37, Ent.fact k15 (fun W => PthOk W (mkPth 4 b15)), Ent.box k2 (mkPth 2 b2).ar 37, Ent.fact k2 (fun W => PthOk W (mkPth 2 b2)), Ent.box k1 g0.ar 49]) := HL45.out.know (steady_atr _) ho.ok
  clear HL45
  have HX19 : Hid (x19.c = (toldF g0 (mkPth 4 b15) cl).1) := Lib.hid hc
  clear ho hc
  go_upto_region 18 with (with_reducible show wpList _ _ _ (_ :: _) _ _; refine wpList_new_row rfl _ (.tmp 19) (.tmp 100) rfl rfl x19.ar rfl 16 atZ rfl rfl (attrs_ones _) ?_)
  intro V26 HC HB
  have HL47 : Hid (Led w V26 [Ent.box w25.heap.size x19.ar 33, Ent.fact w25.heap.size (fun W => AtrOk W x19), Ent.fact V24.heap.size (fun W => PrOk W cl), Ent.box k18 cl.ar 40, Ent.fact k18 (fun W => PrOk W (mkPr ⟨#[101]⟩ 65000 b18)), Ent.box k15 (mkPth 4 b15).ar 37, Ent.fact k15 (fun W => PthOk W (mkPth 4 b15)), Ent.box k2 (mkPth 2 b2).ar 37, Ent.fact k2 (fun W => PthOk W (mkPth 2 b2)), Ent.box k1 g0.ar 49]) := HL46.out.push HC.out HB.out
  obtain ⟨k19, hk⟩ : ∃ k, k = w25.heap.size := ⟨_, rfl⟩
  rw [← hk] at HL47 ⊢
  clear hk HC HB HL46
  have HL48 : Hid (Led w V26 [Ent.box k19 x19.ar 33, Ent.fact k19 (fun W => AtrOk W x19), Ent.fact V24.heap.size (fun W => PrOk W cl), Ent.box k18 cl.ar 40, Ent.box k2 (mkPth 2 b2).ar 37, Ent.fact k2 (fun W => PthOk W (mkPth 2 b2)), Ent.box k1 g0.ar 49]) := HL47.out.sub (.cons_cons _ (.cons_cons _ (.cons_cons _ (.cons_cons _ (.cons _ (.cons _ (.cons _ (.cons_cons _ (.cons_cons _ (.cons_cons _ (List.Sublist.refl [])))))))))))
  clear HL47
  obtain ⟨e1, e2, e3⟩ := cl_19 b15 cl _ HCL.out
  have c1 : V26.cell? ⟨k19, 13, none⟩ = some (.bool true) := by rw [← e1, ← HX19.out]; exact ((HL48.out.box 0 rfl).c 13).trans rfl
  have c2 : V26.cell? ⟨k19, 14, none⟩ = some (.int .u32 9) := by rw [show (9 : Int) = ((x19.orig : Nat) : Int) by rw [show x19.orig = x19.c.orig from rfl, HX19.out, e2]; rfl]; exact ((HL48.out.box 0 rfl).c 14).trans rfl
  have e4 : x19.clus = [7] := by rw [show x19.clus = x19.c.clus from rfl, HX19.out, e3]
  obtain ⟨yb, yo, hyA, hyl, hyc⟩ := (HL48.out.fact 1 rfl).krd (by rw [e4]; decide)
  have c3 : V26.cell? ⟨k19, 15, none⟩ = some (.slice (some ⟨yb, yo, none⟩) 1 x19.kC) := by rw [← hyA, show (1 : Nat) = x19.clus.length by rw [e4]; rfl]; exact ((HL48.out.box 0 rfl).c 15).trans rfl
  have c4 : V26.cell? ⟨yb, yo, none⟩ = some (.int .u32 7) := hyc 0 [.int .u32 7] (by rw [e4]; rfl) 0 _ rfl
  have c5 : 1 ≤ x19.kC := by have h := (HL48.out.fact 1 rfl).klen; rw [e4] at h; exact h
  have c6 : x19.kC ≤ 9223372036854775807 := (HL48.out.fact 1 rfl).kcap
  clear e1 e2 e3 e4 hyA hyl hyc HX19
  go_upto_region 20 with fail
  clear c1 c2 c3 c4 c5 c6
  have HL49 : Hid (Led w V26 [Ent.fact V24.heap.size (fun W => PrOk W cl), Ent.box k18 cl.ar 40, Ent.box k2 (mkPth 2 b2).ar 37, Ent.fact k2 (fun W => PthOk W (mkPth 2 b2)), Ent.box k1 g0.ar 49]) := HL48.out.sub (.cons _ (.cons _ (.cons_cons _ (.cons_cons _ (.cons_cons _ (.cons_cons _ (.cons_cons _ (List.Sublist.refl []))))))))
  clear HL48
  go_wp2_with fail
  refine (HPA.out 2 _ (by decide)).mono ?_
  rintro e w27 ⟨⟨b21, rfl, hp⟩, hb⟩
  have HL51 : Hid (Led w w27 [Ent.fact V24.heap.size (fun W => PrOk W cl), Ent.box k18 cl.ar 40, Ent.box k2 (mkPth 2 b2).ar 37, Ent.fact k2 (fun W => PthOk W (mkPth 2 b2)), Ent.box k1 g0.ar 49]) := HL49.out.below hb
  clear hb HL49
  have HL52 : Hid (Led w w27 [Ent.fact w27.heap.size (fun W => PthOk W (mkPth 2 b21)), Ent.fact V24.heap.size (fun W => PrOk W cl), Ent.box k18 cl.ar 40, Ent.box k2 (mkPth 2 b2).ar 37, Ent.fact k2 (fun W => PthOk W (mkPth 2 b2)), Ent.box k1 g0.ar 49]) := HL51.out.know (steady_pth _) hp
  clear HL51
  clear hp
  go_upto_region 21 with (with_reducible show wpList _ _ _ (_ :: _) _ _; refine wpList_new_row rfl _ (.tmp 21) (.tmp 146) rfl rfl (mkPth 2 b21).ar rfl 29 pathZ rfl rfl (pth_ones _) ?_)
  intro V28 HC HB
  have HL53 : Hid (Led w V28 [Ent.box w27.heap.size (mkPth 2 b21).ar 37, Ent.fact w27.heap.size (fun W => PthOk W (mkPth 2 b21)), Ent.fact V24.heap.size (fun W => PrOk W cl), Ent.box k18 cl.ar 40, Ent.box k2 (mkPth 2 b2).ar 37, Ent.fact k2 (fun W => PthOk W (mkPth 2 b2)), Ent.box k1 g0.ar 49]) := HL52.out.push HC.out HB.out
  obtain ⟨k21, hk⟩ : ∃ k, k = w27.heap.size := ⟨_, rfl⟩
  rw [← hk] at HL53 ⊢
  clear hk HC HB HL52
  have MK := Lib.hid mk_v6
  have MC := Lib.hid conv_v6
  have h21 : ∀ cs : Array Value, CellsAt (V28.alloc (.cells K16 5)) k21 (mkPth 2 b21).ar 37 := fun _ => (HL53.out.box 0 rfl).alloc _
  have H21 := Lib.hid h21
  clear h21
  go_upto_region 22 with (with_reducible show wpList _ _ _ (_ :: _) _ _; first | refine wpList_mk_str rfl (.const (.int .i64 16)) (.const (.int .i64 16)) rfl 16 rfl rfl 16 K16 MK ?_ | refine wpList_conv_str rfl (.tmp 147) rfl V28.heap.size 16 rfl Z16 (MC.out _) ?_ | refine wpList_build_g rfl 27 _ rfl #[(0, .int .i64 2), (2, .string Z16)] rfl (.agg prefV) (fun W => run_build W _ _ _ (by kernel_rfl)) ?_ | refine wpList_store_mid rfl 27 (.tmp 150) (.tmp 149) rfl k21 0 prefV rfl rfl (prefVT (H21.out #[])) prefVN prefV1 ?_)
  refine rb_name fun V29 hV => ?_
  obtain ⟨v, hv⟩ : ∃ x : Pth, x = pv6 (mkPth 2 b21) := ⟨_, rfl⟩
  have HL54 : Hid (Led w V29 [Ent.box k21 v.ar 37, Ent.fact k21 (fun W => PthOk W (mkPth 2 b21)), Ent.fact V24.heap.size (fun W => PrOk W cl), Ent.box k18 cl.ar 40, Ent.box k2 (mkPth 2 b2).ar 37, Ent.fact k2 (fun W => PthOk W (mkPth 2 b2)), Ent.box k1 g0.ar 49]) := by
    rw [hV]
    refine Led.set (l1 := []) (HL53.out.below (below1 _ (.cells K16 5))) (fun e he => by cases he) (grown_setMany prefV.toList 0 _) ?_
    have h := CellsAt.setMany prefV.toList 0 _ _ (H21.out #[])
    rw [hv]
    exact h
  have hrs : PthOk V29 v := by
    have h0 : PthOk V29 (mkPth 2 b21) := HL54.out.fact 1 rfl
    rw [hv]
    exact { h0 with n := nV_ok }
  clear hV H21 MK MC HL53
  have HL55 : Hid (Led w V29 [Ent.fact V29.heap.size (fun W => PthOk W v), Ent.box k21 v.ar 37, Ent.fact k21 (fun W => PthOk W (mkPth 2 b21)), Ent.fact V24.heap.size (fun W => PrOk W cl), Ent.box k18 cl.ar 40, Ent.box k2 (mkPth 2 b2).ar 37, Ent.fact k2 (fun W => PthOk W (mkPth 2 b2)), Ent.box k1 g0.ar 49]) := HL54.out.know (steady_pth _) hrs
  clear HL54
  have HV := Lib.hid hv
  clear hrs hv
  have HL56 : Hid (Led w V29 [Ent.fact V29.heap.size (fun W => PthOk W v), Ent.box k21 v.ar 37, Ent.fact V24.heap.size (fun W => PrOk W cl), Ent.box k18 cl.ar 40, Ent.box k2 (mkPth 2 b2).ar 37, Ent.fact k2 (fun W => PthOk W (mkPth 2 b2)), Ent.box k1 g0.ar 49]) := HL55.out.sub (.cons_cons _ (.cons_cons _ (.cons _ (.cons_cons _ (.cons_cons _ (.cons_cons _ (.cons_cons _ (.cons_cons _ (List.Sublist.refl [])))))))))
  clear HL55
  go_wp2_with fail
  refine (HU.out _).mono ?_
  rintro e w30 ⟨rfl, hb⟩
  have HL58 : Hid (Led w w30 [Ent.fact V29.heap.size (fun W => PthOk W v), Ent.box k21 v.ar 37, Ent.fact V24.heap.size (fun W => PrOk W cl), Ent.box k18 cl.ar 40, Ent.box k2 (mkPth 2 b2).ar 37, Ent.fact k2 (fun W => PthOk W (mkPth 2 b2)), Ent.box k1 g0.ar 49]) := HL56.out.below hb
  clear hb HL56
  go_upto_region 23 with (with_reducible show wpList _ _ _ (_ :: _) _ _; refine wpList_new_row rfl _ (.tmp 22) (.tmp 151) rfl rfl g0.us rfl 5 usZ rfl rfl us_ones ?_)
  intro V31 HC HB
  have HL59 : Hid (Led w V31 [Ent.box w30.heap.size g0.us 24, Ent.fact V29.heap.size (fun W => PthOk W v), Ent.box k21 v.ar 37, Ent.fact V24.heap.size (fun W => PrOk W cl), Ent.box k18 cl.ar 40, Ent.box k2 (mkPth 2 b2).ar 37, Ent.fact k2 (fun W => PthOk W (mkPth 2 b2)), Ent.box k1 g0.ar 49]) := HL58.out.push HC.out HB.out
  obtain ⟨k22, hk⟩ : ∃ k, k = w30.heap.size := ⟨_, rfl⟩
  rw [← hk] at HL59 ⊢
  clear hk HC HB HL58
  have c2 : V31.cell? ⟨k22, 2, none⟩ = some (.int .u32 0) := ((HL59.out.box 0 rfl).c 2).trans rfl
  have c3 : V31.frozen? ⟨k22, 2, none⟩ = false := (HL59.out.box 0 rfl).unfrozen 2
  go_upto_region 24 with fail
  refine rb_name fun V32 hV => ?_
  have HL60 : Hid (Led w V32 [Ent.box k22 gC.us 24, Ent.fact V29.heap.size (fun W => PthOk W v), Ent.box k21 v.ar 37, Ent.fact V24.heap.size (fun W => PrOk W cl), Ent.box k18 cl.ar 40, Ent.box k2 (mkPth 2 b2).ar 37, Ent.fact k2 (fun W => PthOk W (mkPth 2 b2)), Ent.box k1 g0.ar 49]) := by
    rw [hV]
    refine Led.set (l1 := []) HL59.out (fun e he => by cases he) (grown_setCell _ ⟨k22, 2, none⟩ _) ?_
    have h := (HL59.out.box 0 rfl).setAt 2 (.int .u32 100)
    exact h
  clear c2 c3 hV HL59
  go_wp2_with fail
  refine (HTA.out ⟨#[109]⟩ 65005 _ (by decide) (by decide)).mono ?_
  rintro e w33 ⟨⟨b23, rfl, hp⟩, hb⟩
  have HL62 : Hid (Led w w33 [Ent.box k22 gC.us 24, Ent.fact V29.heap.size (fun W => PthOk W v), Ent.box k21 v.ar 37, Ent.fact V24.heap.size (fun W => PrOk W cl), Ent.box k18 cl.ar 40, Ent.box k2 (mkPth 2 b2).ar 37, Ent.fact k2 (fun W => PthOk W (mkPth 2 b2)), Ent.box k1 g0.ar 49]) := HL60.out.below hb
  clear hb HL60
  have HL63 : Hid (Led w w33 [Ent.fact w33.heap.size (fun W => PrOk W (mkPr ⟨#[109]⟩ 65005 b23)), Ent.box k22 gC.us 24, Ent.fact V29.heap.size (fun W => PthOk W v), Ent.box k21 v.ar 37, Ent.fact V24.heap.size (fun W => PrOk W cl), Ent.box k18 cl.ar 40, Ent.box k2 (mkPth 2 b2).ar 37, Ent.fact k2 (fun W => PthOk W (mkPth 2 b2)), Ent.box k1 g0.ar 49]) := HL62.out.know (steady_pr _) hp
  clear HL62
  clear hp
  go_upto_region 25 with (with_reducible show wpList _ _ _ (_ :: _) _ _; refine wpList_new_row rfl _ (.tmp 23) (.tmp 153) rfl rfl (mkPr ⟨#[109]⟩ 65005 b23).ar rfl 23 peerZ rfl rfl (pr_ones _) ?_)
  intro V34 HC HB
  have HL64 : Hid (Led w V34 [Ent.box w33.heap.size (mkPr ⟨#[109]⟩ 65005 b23).ar 40, Ent.fact w33.heap.size (fun W => PrOk W (mkPr ⟨#[109]⟩ 65005 b23)), Ent.box k22 gC.us 24, Ent.fact V29.heap.size (fun W => PthOk W v), Ent.box k21 v.ar 37, Ent.fact V24.heap.size (fun W => PrOk W cl), Ent.box k18 cl.ar 40, Ent.box k2 (mkPth 2 b2).ar 37, Ent.fact k2 (fun W => PthOk W (mkPth 2 b2)), Ent.box k1 g0.ar 49]) := HL63.out.push HC.out HB.out
  obtain ⟨k23, hk⟩ : ∃ k, k = w33.heap.size := ⟨_, rfl⟩
  rw [← hk] at HL64 ⊢
  clear hk HC HB HL63
  have c2 : V34.cell? ⟨k23, 11, none⟩ = some (.bool false) := ((HL64.out.box 0 rfl).c 11).trans rfl
  have c3 : V34.frozen? ⟨k23, 11, none⟩ = false := (HL64.out.box 0 rfl).unfrozen 11
  go_upto_region 26 with fail
  refine rb_name fun V35 hV => ?_
  obtain ⟨mm, hmm⟩ : ∃ x : Pr, x = { (mkPr ⟨#[109]⟩ 65005 b23) with confed := true } := ⟨_, rfl⟩
  have HL65 : Hid (Led w V35 [Ent.box k23 mm.ar 40, Ent.fact k23 (fun W => PrOk W (mkPr ⟨#[109]⟩ 65005 b23)), Ent.box k22 gC.us 24, Ent.fact V29.heap.size (fun W => PthOk W v), Ent.box k21 v.ar 37, Ent.fact V24.heap.size (fun W => PrOk W cl), Ent.box k18 cl.ar 40, Ent.box k2 (mkPth 2 b2).ar 37, Ent.fact k2 (fun W => PthOk W (mkPth 2 b2)), Ent.box k1 g0.ar 49]) := by
    rw [hV]
    refine Led.set (l1 := []) HL64.out (fun e he => by cases he) (grown_setCell _ ⟨k23, 11, none⟩ _) ?_
    have h := (HL64.out.box 0 rfl).setAt 11 (.bool true)
    rw [hmm]
    exact h
  have hrs : PrOk V35 mm := by
    have h0 : PrOk V35 (mkPr ⟨#[109]⟩ 65005 b23) := HL65.out.fact 1 rfl
    rw [hmm]
    exact ⟨h0.rd, h0.len, h0.cap, h0.name, h0.as_⟩
  clear c2 c3 hV HL64
  have HL66 : Hid (Led w V35 [Ent.fact V35.heap.size (fun W => PrOk W mm), Ent.box k23 mm.ar 40, Ent.fact k23 (fun W => PrOk W (mkPr ⟨#[109]⟩ 65005 b23)), Ent.box k22 gC.us 24, Ent.fact V29.heap.size (fun W => PthOk W v), Ent.box k21 v.ar 37, Ent.fact V24.heap.size (fun W => PrOk W cl), Ent.box k18 cl.ar 40, Ent.box k2 (mkPth 2 b2).ar 37, Ent.fact k2 (fun W => PthOk W (mkPth 2 b2)), Ent.box k1 g0.ar 49]) := HL65.out.know (steady_pr _) hrs
  clear HL65
  clear hrs
  have HMM := Lib.hid hmm
  clear hmm
  have HL67 : Hid (Led w V35 [Ent.fact V35.heap.size (fun W => PrOk W mm), Ent.box k23 mm.ar 40, Ent.box k22 gC.us 24, Ent.fact V29.heap.size (fun W => PthOk W v), Ent.box k21 v.ar 37, Ent.fact V24.heap.size (fun W => PrOk W cl), Ent.box k18 cl.ar 40, Ent.box k2 (mkPth 2 b2).ar 37, Ent.fact k2 (fun W => PthOk W (mkPth 2 b2)), Ent.box k1 g0.ar 49]) := HL66.out.sub (.cons_cons _ (.cons_cons _ (.cons _ (.cons_cons _ (.cons_cons _ (.cons_cons _ (.cons_cons _ (.cons_cons _ (.cons_cons _ (.cons_cons _ (.cons_cons _ (List.Sublist.refl []))))))))))))
  clear HL66
  go_upto_region 26 with fail
  go_cut [24, 25] (fun v3 v4 wx => ∃ (k : Nat) (x : Atr), v3 = .pointer (some ⟨k, 0, none⟩) ∧ v4 = .bool true ∧ Hid (x.c = c26) ∧ Hid (Led w wx (.fact wx.heap.size (fun W => AtrOk W x) :: .box k x.ar 33 :: [Ent.fact V35.heap.size (fun W => PrOk W mm), Ent.box k23 mm.ar 40, Ent.box k22 gC.us 24, Ent.fact V29.heap.size (fun W => PthOk W v), Ent.box k21 v.ar 37, Ent.fact V24.heap.size (fun W => PrOk W cl), Ent.box k18 cl.ar 40, Ent.box k2 (mkPth 2 b2).ar 37, Ent.fact k2 (fun W => PthOk W (mkPth 2 b2)), Ent.box k1 g0.ar 49])))
  case first =>
    rename_i J K hJ hK
    refine wp_mono (draw_26 w _ _ HL67 k22 2 gC rfl k2 7 (mkPth 2 b2) rfl k23 1 mm rfl 8 _ rfl 0 _ rfl gC_ok (told_K26 _ mm _ HMM.out) c26 (told_26 _ mm _ HMM.out) _ _ _ _ _ _ _ _ _ _ _ _ _ _ _ _ _ _ _ _ _ _ _ _ _ _ _ _ _ _ _ _ _ _ _ _ _ _ _ _ _ _ _ _ _ _ _ _ _ _ _ _ _ _ _ _ _ _ _ _ _ _ _ _ _ _ _ _ _ _ _ _ _ _ _ _ _ _ _ _ _ _ _ _ _ _ _ _ _ _ _ _ _ _ _ _ _ _ _ _ _ _ _ _ _ _ _ _ _ _ _ _ _ _ _ _ _ _ _ _ _ _ _ _ _ _ _ _ _ _ _ _ _ _ _ _ _ _ _ _ _ _ _ _ _ _ _ _ _ _ _ _ _ _ _ _ _ _ _ _ _ _ _ _ _ _ _ _ _ _ _ _ _ _ _ _ _ _ _ _ _ _ _ _ _ _ _ _ _ _ _ _ _ _ _ _ _ _ _ _ _ _ _ _ _ _ _ _ _ _ _ _ _ _ _ _ _ _ _ _ _ _ _ _ _ _ _ _ _ _ _ _ _ _ _ _ _ _ _ _ _ _ _ _ _ _ _ _ _ _ _ _ _ _ _ _ _ _ _ _ _ _ _ _ _ _ _ _ _ _ _ _ _) ?_
    rintro e a' w' ⟨rfl, k, x, d155, d156, d157, d158, d159, d160, d161, d162, rfl, hxx⟩
    refine hK _ _ (Met.intro (hJ _ _ ?_))
    (repeat apply Exists.intro)
    refine ⟨?_, rfl⟩
    exact ⟨k, x, rfl, rfl, hxx⟩
  case rest =>
  obtain ⟨k24, x24, rfl, rfl, HX24, hl24⟩ := hcut
  obtain ⟨V36, hwc⟩ : ∃ x, x = wc := ⟨_, rfl⟩
  rw [← hwc] at hl24 ⊢
  clear hwc
  have HL68 : Hid (Led w V36 [Ent.fact V36.heap.size (fun W => AtrOk W x24), Ent.box k24 x24.ar 33, Ent.fact V35.heap.size (fun W => PrOk W mm), Ent.box k23 mm.ar 40, Ent.box k22 gC.us 24, Ent.fact V29.heap.size (fun W => PthOk W v), Ent.box k21 v.ar 37, Ent.fact V24.heap.size (fun W => PrOk W cl), Ent.box k18 cl.ar 40, Ent.box k2 (mkPth 2 b2).ar 37, Ent.fact k2 (fun W => PthOk W (mkPth 2 b2)), Ent.box k1 g0.ar 49]) := hl24.out
  clear hl24 HL67
  as_aux_lemma =>
  go_upto_region 27 with fail
  go_cut [26, 27] (fun v3 v4 wx => ∃ (k : Nat) (x : Atr), v3 = .pointer (some ⟨k, 0, none⟩) ∧ v4 = .bool true ∧ Hid (x.c = c27) ∧ Hid (Led w wx (.fact wx.heap.size (fun W => AtrOk W x) :: .box k x.ar 33 :: [Ent.fact V36.heap.size (fun W => AtrOk W x24), Ent.box k24 x24.ar 33, Ent.fact V35.heap.size (fun W => PrOk W mm), Ent.box k23 mm.ar 40, Ent.box k22 gC.us 24, Ent.fact V29.heap.size (fun W => PthOk W v), Ent.box k21 v.ar 37, Ent.fact V24.heap.size (fun W => PrOk W cl), Ent.box k18 cl.ar 40, Ent.box k2 (mkPth 2 b2).ar 37, Ent.fact k2 (fun W => PthOk W (mkPth 2 b2)), Ent.box k1 g0.ar 49])))
  case first =>
    rename_i J K hJ hK
    refine wp_mono (draw_27 w _ _ HL68 k22 4 gC rfl k2 9 (mkPth 2 b2) rfl 10 _ rfl gC_ok (fun c => told_K27 _ _) c27 (fun c => told_27 _ _) _ _ _ _ _ _ _ _ _ _ _ _ _ _ _ _ _ _ _ _ _ _ _ _ _ _ _ _ _ _ _ _ _ _ _ _ _ _ _ _ _ _ _ _ _ _ _ _ _ _ _ _ _ _ _ _ _ _ _ _ _ _ _ _ _ _ _ _ _ _ _ _ _ _ _ _ _ _ _ _ _ _ _ _ _ _ _ _ _ _ _ _ _ _ _ _ _ _ _ _ _ _ _ _ _ _ _ _ _ _ _ _ _ _ _ _ _ _ _ _ _ _ _ _ _ _ _ _ _ _ _ _ _ _ _ _ _ _ _ _ _ _ _ _ _ _ _ _ _ _ _ _ _ _ _ _ _ _ _ _ _ _ _ _ _ _ _ _ _ _ _ _ _ _ _ _ _ _ _ _ _ _ _ _ _ _ _ _ _ _ _ _ _ _ _ _ _ _ _ _ _ _ _ _ _ _ _ _ _ _ _ _ _ _ _ _ _ _ _ _ _ _ _ _ _ _ _ _ _ _ _ _ _ _ _ _ _ _ _ _ _ _ _ _ _ _ _ _ _ _ _ _ _ _ _ _ _ _ _ _ _ _ _ _ _ _ _ _ _ _ _ _ _ _) ?_
    rintro e a' w' ⟨rfl, k, x, d163, d164, d165, d166, d167, d168, d169, d170, rfl, hxx⟩
    refine hK _ _ (Met.intro (hJ _ _ ?_))
    (repeat apply Exists.intro)
    refine ⟨?_, rfl⟩
    exact ⟨k, x, rfl, rfl, hxx⟩
  case rest =>
  obtain ⟨k26, x26, rfl, rfl, HX26, hl26⟩ := hcut
  obtain ⟨V37, hwc⟩ : ∃ x, x = wc := ⟨_, rfl⟩
  rw [← hwc] at hl26 ⊢
  clear hwc
  have HL69 : Hid (Led w V37 [Ent.fact V37.heap.size (fun W => AtrOk W x26), Ent.box k26 x26.ar 33, Ent.fact V36.heap.size (fun W => AtrOk W x24), Ent.box k24 x24.ar 33, Ent.fact V35.heap.size (fun W => PrOk W mm), Ent.box k23 mm.ar 40, Ent.box k22 gC.us 24, Ent.fact V29.heap.size (fun W => PthOk W v), Ent.box k21 v.ar 37, Ent.fact V24.heap.size (fun W => PrOk W cl), Ent.box k18 cl.ar 40, Ent.box k2 (mkPth 2 b2).ar 37, Ent.fact k2 (fun W => PthOk W (mkPth 2 b2)), Ent.box k1 g0.ar 49]) := hl26.out
  clear hl26 HL68
  as_aux_lemma =>
  go_wp2_with fail
  refine (HPA.out 2 _ (by decide)).mono ?_
  rintro e w38 ⟨⟨b28, rfl, hp⟩, hb⟩
  have HL71 : Hid (Led w w38 [Ent.fact V37.heap.size (fun W => AtrOk W x26), Ent.box k26 x26.ar 33, Ent.fact V36.heap.size (fun W => AtrOk W x24), Ent.box k24 x24.ar 33, Ent.fact V35.heap.size (fun W => PrOk W mm), Ent.box k23 mm.ar 40, Ent.box k22 gC.us 24, Ent.fact V29.heap.size (fun W => PthOk W v), Ent.box k21 v.ar 37, Ent.fact V24.heap.size (fun W => PrOk W cl), Ent.box k18 cl.ar 40, Ent.box k2 (mkPth 2 b2).ar 37, Ent.fact k2 (fun W => PthOk W (mkPth 2 b2)), Ent.box k1 g0.ar 49]) := HL69.out.below hb
  clear hb HL69
  have HL72 : Hid (Led w w38 [Ent.fact w38.heap.size (fun W => PthOk W (mkPth 2 b28)), Ent.fact V37.heap.size (fun W => AtrOk W x26), Ent.box k26 x26.ar 33, Ent.fact V36.heap.size (fun W => AtrOk W x24), Ent.box k24 x24.ar 33, Ent.fact V35.heap.size (fun W => PrOk W mm), Ent.box k23 mm.ar 40, Ent.box k22 gC.us 24, Ent.fact V29.heap.size (fun W => PthOk W v), Ent.box k21 v.ar 37, Ent.fact V24.heap.size (fun W => PrOk W cl), Ent.box k18 cl.ar 40, Ent.box k2 (mkPth 2 b2).ar 37, Ent.fact k2 (fun W => PthOk W (mkPth 2 b2)), Ent.box k1 g0.ar 49]) := HL71.out.know (steady_pth _) hp
  clear HL71
  clear hp
  go_upto_region 29 with (with_reducible show wpList _ _ _ (_ :: _) _ _; refine wpList_new_row rfl _ (.tmp 28) (.tmp 171) rfl rfl (mkPth 2 b28).ar rfl 29 pathZ rfl rfl (pth_ones _) ?_)
  intro V39 HC HB
  have HL73 : Hid (Led w V39 [Ent.box w38.heap.size (mkPth 2 b28).ar 37, Ent.fact w38.heap.size (fun W => PthOk W (mkPth 2 b28)), Ent.fact V37.heap.size (fun W => AtrOk W x26), Ent.box k26 x26.ar 33, Ent.fact V36.heap.size (fun W => AtrOk W x24), Ent.box k24 x24.ar 33, Ent.fact V35.heap.size (fun W => PrOk W mm), Ent.box k23 mm.ar 40, Ent.box k22 gC.us 24, Ent.fact V29.heap.size (fun W => PthOk W v), Ent.box k21 v.ar 37, Ent.fact V24.heap.size (fun W => PrOk W cl), Ent.box k18 cl.ar 40, Ent.box k2 (mkPth 2 b2).ar 37, Ent.fact k2 (fun W => PthOk W (mkPth 2 b2)), Ent.box k1 g0.ar 49]) := HL72.out.push HC.out HB.out
  obtain ⟨k28, hk⟩ : ∃ k, k = w38.heap.size := ⟨_, rfl⟩
  rw [← hk] at HL73 ⊢
  clear hk HC HB HL72
  have c2 : (V39.alloc (.cells #[.int .u32 4294967043] 22)).cell? ⟨k28, 16, none⟩ = some (.slice none 0 0) := (((HL73.out.box 0 rfl).alloc (.cells #[.int .u32 4294967043] 22)).c 16).trans rfl
  have c3 : (V39.alloc (.cells #[.int .u32 4294967043] 22)).frozen? ⟨k28, 16, none⟩ = false := ((HL73.out.box 0 rfl).alloc (.cells #[.int .u32 4294967043] 22)).unfrozen 16
  go_upto_region 30 with fail
  refine rb_name fun V40 hV => ?_
  obtain ⟨nn, hnn⟩ : ∃ x : Pth, x = pcom (mkPth 2 b28) V39.heap.size 4294967043 := ⟨_, rfl⟩
  have HL74 : Hid (Led w V40 [Ent.box k28 nn.ar 37, Ent.fact k28 (fun W => PthOk W (mkPth 2 b28)), Ent.fact V37.heap.size (fun W => AtrOk W x26), Ent.box k26 x26.ar 33, Ent.fact V36.heap.size (fun W => AtrOk W x24), Ent.box k24 x24.ar 33, Ent.fact V35.heap.size (fun W => PrOk W mm), Ent.box k23 mm.ar 40, Ent.box k22 gC.us 24, Ent.fact V29.heap.size (fun W => PthOk W v), Ent.box k21 v.ar 37, Ent.fact V24.heap.size (fun W => PrOk W cl), Ent.box k18 cl.ar 40, Ent.box k2 (mkPth 2 b2).ar 37, Ent.fact k2 (fun W => PthOk W (mkPth 2 b2)), Ent.box k1 g0.ar 49]) := by
    rw [hV]
    refine Led.set (l1 := []) (HL73.out.below (below1 _ _)) (fun e he => by cases he) (grown_setCell _ ⟨k28, 16, none⟩ _) ?_
    have h := ((HL73.out.box 0 rfl).alloc (.cells #[.int .u32 4294967043] 22)).setAt 16 (.slice (some ⟨V39.heap.size, 0, none⟩) 1 1)
    rw [hnn]
    exact h
  have hrs : PthOk V40 nn := by
    have h0 : PthOk V40 (mkPth 2 b28) := HL74.out.fact 1 rfl
    rw [hV] at h0 ⊢
    rw [hnn]
    exact pcom_ok h0 ((CellsAt.new V39 #[.int .u32 4294967043] 22).setX (Nat.ne_of_gt (HL73.out.box 0 rfl).lt) _) (by decide)
  clear c2 c3 hV HL73
  have HL75 : Hid (Led w V40 [Ent.fact V40.heap.size (fun W => PthOk W nn), Ent.box k28 nn.ar 37, Ent.fact k28 (fun W => PthOk W (mkPth 2 b28)), Ent.fact V37.heap.size (fun W => AtrOk W x26), Ent.box k26 x26.ar 33, Ent.fact V36.heap.size (fun W => AtrOk W x24), Ent.box k24 x24.ar 33, Ent.fact V35.heap.size (fun W => PrOk W mm), Ent.box k23 mm.ar 40, Ent.box k22 gC.us 24, Ent.fact V29.heap.size (fun W => PthOk W v), Ent.box k21 v.ar 37, Ent.fact V24.heap.size (fun W => PrOk W cl), Ent.box k18 cl.ar 40, Ent.box k2 (mkPth 2 b2).ar 37, Ent.fact k2 (fun W => PthOk W (mkPth 2 b2)), Ent.box k1 g0.ar 49]) := HL74.out.know (steady_pth _) hrs
  clear HL74
  clear hrs
  have HNN := Lib.hid hnn
  clear hnn
  go_upto_region 30 with fail
  go_cut [29, 30] (fun v3 v4 wx => ∃ (k : Nat) (x : Atr), v3 = .pointer (some ⟨k, 0, none⟩) ∧ v4 = .bool false ∧ Hid (Led w wx (.fact wx.heap.size (fun W => AtrOk W x) :: .box k x.ar 33 :: [Ent.fact V40.heap.size (fun W => PthOk W nn), Ent.box k28 nn.ar 37, Ent.fact k28 (fun W => PthOk W (mkPth 2 b28)), Ent.fact V37.heap.size (fun W => AtrOk W x26), Ent.box k26 x26.ar 33, Ent.fact V36.heap.size (fun W => AtrOk W x24), Ent.box k24 x24.ar 33, Ent.fact V35.heap.size (fun W => PrOk W mm), Ent.box k23 mm.ar 40, Ent.box k22 gC.us 24, Ent.fact V29.heap.size (fun W => PthOk W v), Ent.box k21 v.ar 37, Ent.fact V24.heap.size (fun W => PrOk W cl), Ent.box k18 cl.ar 40, Ent.box k2 (mkPth 2 b2).ar 37, Ent.fact k2 (fun W => PthOk W (mkPth 2 b2)), Ent.box k1 g0.ar 49])))
  case first =>
    rename_i J K hJ hK
    refine wp_mono (draw_30 w _ _ HL75 k22 9 gC rfl k28 1 nn rfl k23 8 mm rfl 0 _ rfl 7 _ rfl gC_ok (told_K30 nn _ _ HNN.out mm _ HMM.out) _ _ _ _ _ _ _ _ _ _ _ _ _ _ _ _ _ _ _ _ _ _ _ _ _ _ _ _ _ _ _ _ _ _ _ _ _ _ _ _ _ _ _ _ _ _ _ _ _ _ _ _ _ _ _ _ _ _ _ _ _ _ _ _ _ _ _ _ _ _ _ _ _ _ _ _ _ _ _ _ _ _ _ _ _ _ _ _ _ _ _ _ _ _ _ _ _ _ _ _ _ _ _ _ _ _ _ _ _ _ _ _ _ _ _ _ _ _ _ _ _ _ _ _ _ _ _ _ _ _ _ _ _ _ _ _ _ _ _ _ _ _ _ _ _ _ _ _ _ _ _ _ _ _ _ _ _ _ _ _ _ _ _ _ _ _ _ _ _ _ _ _ _ _ _ _ _ _ _ _ _ _ _ _ _ _ _ _ _ _ _ _ _ _ _ _ _ _ _ _ _ _ _ _ _ _ _ _ _ _ _ _ _ _ _ _ _ _ _ _ _ _ _ _ _ _ _ _ _ _ _ _ _ _ _ _ _ _ _ _ _ _ _ _ _ _ _ _ _ _ _ _ _ _ _ _ _ _ _ _ _ _ _ _ _ _ _ _ _ _ _ _ _) ?_
    rintro e a' w' ⟨rfl, k, x, d175, d176, d177, d178, d179, d180, d181, d182, rfl, hxx⟩
    refine hK _ _ (Met.intro (hJ _ _ ?_))
    (repeat apply Exists.intro)
    refine ⟨?_, rfl⟩
    exact ⟨k, x, rfl, rfl, hxx⟩
  case rest =>
  obtain ⟨k29, x29, rfl, rfl, hl29⟩ := hcut
  obtain ⟨V41, hwc⟩ : ∃ x, x = wc := ⟨_, rfl⟩
  rw [← hwc] at hl29 ⊢
  clear hwc
  have HL76 : Hid (Led w V41 [Ent.fact V40.heap.size (fun W => PthOk W nn), Ent.box k28 nn.ar 37, Ent.fact k28 (fun W => PthOk W (mkPth 2 b28)), Ent.fact V37.heap.size (fun W => AtrOk W x26), Ent.box k26 x26.ar 33, Ent.fact V36.heap.size (fun W => AtrOk W x24), Ent.box k24 x24.ar 33, Ent.fact V35.heap.size (fun W => PrOk W mm), Ent.box k23 mm.ar 40, Ent.box k22 gC.us 24, Ent.fact V29.heap.size (fun W => PthOk W v), Ent.box k21 v.ar 37, Ent.fact V24.heap.size (fun W => PrOk W cl), Ent.box k18 cl.ar 40, Ent.box k2 (mkPth 2 b2).ar 37, Ent.fact k2 (fun W => PthOk W (mkPth 2 b2)), Ent.box k1 g0.ar 49]) := hl29.out.sub ((List.sublist_cons_self _ _).trans (List.sublist_cons_self _ _))
  clear hl29 HL75
  as_aux_lemma =>
  clear HNN HMM
  have HL77 : Hid (Led w V41 [Ent.fact V37.heap.size (fun W => AtrOk W x26), Ent.box k26 x26.ar 33, Ent.fact V36.heap.size (fun W => AtrOk W x24), Ent.box k24 x24.ar 33, Ent.fact V29.heap.size (fun W => PthOk W v), Ent.box k21 v.ar 37, Ent.fact V24.heap.size (fun W => PrOk W cl), Ent.box k18 cl.ar 40, Ent.box k2 (mkPth 2 b2).ar 37, Ent.fact k2 (fun W => PthOk W (mkPth 2 b2)), Ent.box k1 g0.ar 49]) := HL76.out.sub (.cons _ (.cons _ (.cons _ (.cons_cons _ (.cons_cons _ (.cons_cons _ (.cons_cons _ (.cons _ (.cons _ (.cons _ (.cons_cons _ (.cons_cons _ (.cons_cons _ (.cons_cons _ (.cons_cons _ (.cons_cons _ (.cons_cons _ (List.Sublist.refl []))))))))))))))))))
  clear HL76
  go_wp2_with fail
  refine (HPA.out 4 _ (by decide)).mono ?_
  rintro e w42 ⟨⟨b31, rfl, hp⟩, hb⟩
  have HL79 : Hid (Led w w42 [Ent.fact V37.heap.size (fun W => AtrOk W x26), Ent.box k26 x26.ar 33, Ent.fact V36.heap.size (fun W => AtrOk W x24), Ent.box k24 x24.ar 33, Ent.fact V29.heap.size (fun W => PthOk W v), Ent.box k21 v.ar 37, Ent.fact V24.heap.size (fun W => PrOk W cl), Ent.box k18 cl.ar 40, Ent.box k2 (mkPth 2 b2).ar 37, Ent.fact k2 (fun W => PthOk W (mkPth 2 b2)), Ent.box k1 g0.ar 49]) := HL77.out.below hb
  clear hb HL77
  have HL80 : Hid (Led w w42 [Ent.fact w42.heap.size (fun W => PthOk W (mkPth 4 b31)), Ent.fact V37.heap.size (fun W => AtrOk W x26), Ent.box k26 x26.ar 33, Ent.fact V36.heap.size (fun W => AtrOk W x24), Ent.box k24 x24.ar 33, Ent.fact V29.heap.size (fun W => PthOk W v), Ent.box k21 v.ar 37, Ent.fact V24.heap.size (fun W => PrOk W cl), Ent.box k18 cl.ar 40, Ent.box k2 (mkPth 2 b2).ar 37, Ent.fact k2 (fun W => PthOk W (mkPth 2 b2)), Ent.box k1 g0.ar 49]) := HL79.out.know (steady_pth _) hp
  clear HL79
  clear hp
  go_upto_region 32 with (with_reducible show wpList _ _ _ (_ :: _) _ _; refine wpList_new_row rfl _ (.tmp 31) (.tmp 183) rfl rfl (mkPth 4 b31).ar rfl 29 pathZ rfl rfl (pth_ones _) ?_)
  intro V43 HC HB
  have HL81 : Hid (Led w V43 [Ent.box w42.heap.size (mkPth 4 b31).ar 37, Ent.fact w42.heap.size (fun W => PthOk W (mkPth 4 b31)), Ent.fact V37.heap.size (fun W => AtrOk W x26), Ent.box k26 x26.ar 33, Ent.fact V36.heap.size (fun W => AtrOk W x24), Ent.box k24 x24.ar 33, Ent.fact V29.heap.size (fun W => PthOk W v), Ent.box k21 v.ar 37, Ent.fact V24.heap.size (fun W => PrOk W cl), Ent.box k18 cl.ar 40, Ent.box k2 (mkPth 2 b2).ar 37, Ent.fact k2 (fun W => PthOk W (mkPth 2 b2)), Ent.box k1 g0.ar 49]) := HL80.out.push HC.out HB.out
  obtain ⟨k31, hk⟩ : ∃ k, k = w42.heap.size := ⟨_, rfl⟩
  rw [← hk] at HL81 ⊢
  clear hk HC HB HL80
  have MK := Lib.hid mk_u32s
  have c2 : (V43.alloc (.cells K32 22)).cell? ⟨k31, 21, none⟩ = some (.slice none 0 0) := (((HL81.out.box 0 rfl).alloc (.cells K32 22)).c 21).trans rfl
  have c3 : (V43.alloc (.cells K32 22)).frozen? ⟨k31, 21, none⟩ = false := ((HL81.out.box 0 rfl).alloc (.cells K32 22)).unfrozen 21
  go_upto_region 33 with (with_reducible show wpList _ _ _ (_ :: _) _ _; refine wpList_mk_u32 rfl (.const (.int .i64 32)) (.const (.int .i64 32)) rfl 32 rfl rfl 32 K32 MK ?_)
  refine rb_name fun V44 hV => ?_
  obtain ⟨full, hfull⟩ : ∃ x : Pth, x = pclu (mkPth 4 b31) V43.heap.size := ⟨_, rfl⟩
  have HL82 : Hid (Led w V44 [Ent.box k31 full.ar 37, Ent.fact k31 (fun W => PthOk W (mkPth 4 b31)), Ent.fact V37.heap.size (fun W => AtrOk W x26), Ent.box k26 x26.ar 33, Ent.fact V36.heap.size (fun W => AtrOk W x24), Ent.box k24 x24.ar 33, Ent.fact V29.heap.size (fun W => PthOk W v), Ent.box k21 v.ar 37, Ent.fact V24.heap.size (fun W => PrOk W cl), Ent.box k18 cl.ar 40, Ent.box k2 (mkPth 2 b2).ar 37, Ent.fact k2 (fun W => PthOk W (mkPth 2 b2)), Ent.box k1 g0.ar 49]) := by
    rw [hV]
    refine Led.set (l1 := []) (HL81.out.below (below1 _ _)) (fun e he => by cases he) (grown_setCell _ ⟨k31, 21, none⟩ _) ?_
    have h := ((HL81.out.box 0 rfl).alloc (.cells K32 22)).setAt 21 (.slice (some ⟨V43.heap.size, 0, none⟩) 32 32)
    rw [hfull]
    exact h
  have hrs : PthOk V44 full := by
    have h0 : PthOk V44 (mkPth 4 b31) := HL82.out.fact 1 rfl
    rw [hV] at h0 ⊢
    rw [hfull]
    exact pclu_ok h0 ((CellsAt.new V43 K32 22).setX (Nat.ne_of_gt (HL81.out.box 0 rfl).lt) _)
  clear c2 c3 hV HL81
  have HL83 : Hid (Led w V44 [Ent.fact V44.heap.size (fun W => PthOk W full), Ent.box k31 full.ar 37, Ent.fact k31 (fun W => PthOk W (mkPth 4 b31)), Ent.fact V37.heap.size (fun W => AtrOk W x26), Ent.box k26 x26.ar 33, Ent.fact V36.heap.size (fun W => AtrOk W x24), Ent.box k24 x24.ar 33, Ent.fact V29.heap.size (fun W => PthOk W v), Ent.box k21 v.ar 37, Ent.fact V24.heap.size (fun W => PrOk W cl), Ent.box k18 cl.ar 40, Ent.box k2 (mkPth 2 b2).ar 37, Ent.fact k2 (fun W => PthOk W (mkPth 2 b2)), Ent.box k1 g0.ar 49]) := HL82.out.know (steady_pth _) hrs
  clear HL82
  clear hrs
  have HFULL := Lib.hid hfull
  clear hfull
  clear MK
  go_wp2_with (with_reducible show wpList _ _ _ (_ :: _) _ _; first | refine wpList_load_conf (by kernel_rfl) (.tmp 1) rfl k1 rfl g0 (Lib.hid (HL83.out.box 13 rfl)) ?_ | refine wpList_load_path (by kernel_rfl) (.tmp 31) rfl k31 rfl full (Lib.hid (HL83.out.box 1 rfl)) ?_ | refine wpList_load_peer (by kernel_rfl) (.tmp 18) rfl k18 rfl cl (Lib.hid (HL83.out.box 10 rfl)) ?_)
  refine (HAT.out g0 full cl _ g0_ok (HL83.out.fact 0 rfl) (HL83.out.fact 9 rfl)).mono ?_
  rintro e w45 ⟨x32, rfl, ho, hc, hb⟩
  rw [attrs_K33 full _ _ HFULL.out cl _ HCL.out]
  have HL85 : Hid (Led w w45 [Ent.fact V44.heap.size (fun W => PthOk W full), Ent.box k31 full.ar 37, Ent.fact k31 (fun W => PthOk W (mkPth 4 b31)), Ent.fact V37.heap.size (fun W => AtrOk W x26), Ent.box k26 x26.ar 33, Ent.fact V36.heap.size (fun W => AtrOk W x24), Ent.box k24 x24.ar 33, Ent.fact V29.heap.size (fun W => PthOk W v), Ent.box k21 v.ar 37, Ent.fact V24.heap.size (fun W => PrOk W cl), Ent.box k18 cl.ar 40, Ent.box k2 (mkPth 2 b2).ar 37, Ent.fact k2 (fun W => PthOk W (mkPth 2 b2)), Ent.box k1 g0.ar 49]) := HL83.out.below hb
  clear hb HL83
  clear ho hc
  go_upto_region 34 with (with_reducible show wpList _ _ _ (_ :: _) _ _; refine wpList_new_row rfl _ (.tmp 32) (.tmp 192) rfl rfl x32.ar rfl 16 atZ rfl rfl (attrs_ones _) ?_)
  intro V46 HC HB
  have HL86 : Hid (Led w V46 [Ent.box w45.heap.size x32.ar 33, Ent.fact V44.heap.size (fun W => PthOk W full), Ent.box k31 full.ar 37, Ent.fact k31 (fun W => PthOk W (mkPth 4 b31)), Ent.fact V37.heap.size (fun W => AtrOk W x26), Ent.box k26 x26.ar 33, Ent.fact V36.heap.size (fun W => AtrOk W x24), Ent.box k24 x24.ar 33, Ent.fact V29.heap.size (fun W => PthOk W v), Ent.box k21 v.ar 37, Ent.fact V24.heap.size (fun W => PrOk W cl), Ent.box k18 cl.ar 40, Ent.box k2 (mkPth 2 b2).ar 37, Ent.fact k2 (fun W => PthOk W (mkPth 2 b2)), Ent.box k1 g0.ar 49]) := HL85.out.push HC.out HB.out
  obtain ⟨k32, hk⟩ : ∃ k, k = w45.heap.size := ⟨_, rfl⟩
  rw [← hk] at HL86 ⊢
  clear hk HC HB HL85
  have HL87 : Hid (Led w V46 [Ent.fact V37.heap.size (fun W => AtrOk W x26), Ent.box k26 x26.ar 33, Ent.fact V36.heap.size (fun W => AtrOk W x24), Ent.box k24 x24.ar 33, Ent.fact V29.heap.size (fun W => PthOk W v), Ent.box k21 v.ar 37, Ent.fact V24.heap.size (fun W => PrOk W cl), Ent.box k18 cl.ar 40, Ent.box k2 (mkPth 2 b2).ar 37, Ent.fact k2 (fun W => PthOk W (mkPth 2 b2)), Ent.box k1 g0.ar 49]) := HL86.out.sub (.cons _ (.cons _ (.cons _ (.cons _ (.cons_cons _ (.cons_cons _ (.cons_cons _ (.cons_cons _ (.cons_cons _ (.cons_cons _ (.cons_cons _ (.cons_cons _ (.cons_cons _ (.cons_cons _ (.cons_cons _ (List.Sublist.refl []))))))))))))))))
  clear HL86
  clear HFULL
  go_wp2_with (with_reducible show wpList _ _ _ (_ :: _) _ _; first | refine wpList_load_conf (by kernel_rfl) (.tmp 1) rfl k1 rfl g0 (Lib.hid (HL87.out.box 10 rfl)) ?_ | refine wpList_build_g rfl 37 _ rfl #[] rfl (.agg zPth.ar) (fun W => run_build W _ _ _ (by kernel_rfl)) ?_ | refine wpList_load_peer (by kernel_rfl) (.tmp 18) rfl k18 rfl cl (Lib.hid (HL87.out.box 7 rfl)) ?_)
  refine (HAT.out g0 zPth cl _ g0_ok (zPth_ok _) (HL87.out.fact 6 rfl)).mono ?_
  rintro e w47 ⟨x34, rfl, ho, hc, hb⟩
  rw [attrs_K34 cl _ HCL.out]
  have HL89 : Hid (Led w w47 [Ent.fact V37.heap.size (fun W => AtrOk W x26), Ent.box k26 x26.ar 33, Ent.fact V36.heap.size (fun W => AtrOk W x24), Ent.box k24 x24.ar 33, Ent.fact V29.heap.size (fun W => PthOk W v), Ent.box k21 v.ar 37, Ent.fact V24.heap.size (fun W => PrOk W cl), Ent.box k18 cl.ar 40, Ent.box k2 (mkPth 2 b2).ar 37, Ent.fact k2 (fun W => PthOk W (mkPth 2 b2)), Ent.box k1 g0.ar 49]) := HL87.out.below hb
  clear hb HL87
  clear ho hc
  go_upto_region 35 with (with_reducible show wpList _ _ _ (_ :: _) _ _; refine wpList_new_row rfl _ (.tmp 34) (.tmp 199) rfl rfl x34.ar rfl 16 atZ rfl rfl (attrs_ones _) ?_)
  intro V48 HC HB
  have HL90 : Hid (Led w V48 [Ent.box w47.heap.size x34.ar 33, Ent.fact V37.heap.size (fun W => AtrOk W x26), Ent.box k26 x26.ar 33, Ent.fact V36.heap.size (fun W => AtrOk W x24), Ent.box k24 x24.ar 33, Ent.fact V29.heap.size (fun W => PthOk W v), Ent.box k21 v.ar 37, Ent.fact V24.heap.size (fun W => PrOk W cl), Ent.box k18 cl.ar 40, Ent.box k2 (mkPth 2 b2).ar 37, Ent.fact k2 (fun W => PthOk W (mkPth 2 b2)), Ent.box k1 g0.ar 49]) := HL89.out.push HC.out HB.out
  obtain ⟨k34, hk⟩ : ∃ k, k = w47.heap.size := ⟨_, rfl⟩
  rw [← hk] at HL90 ⊢
  clear hk HC HB HL89
  have HL91 : Hid (Led w V48 [Ent.fact V37.heap.size (fun W => AtrOk W x26), Ent.box k26 x26.ar 33, Ent.fact V36.heap.size (fun W => AtrOk W x24), Ent.box k24 x24.ar 33, Ent.fact V29.heap.size (fun W => PthOk W v), Ent.box k21 v.ar 37, Ent.box k2 (mkPth 2 b2).ar 37, Ent.fact k2 (fun W => PthOk W (mkPth 2 b2)), Ent.box k1 g0.ar 49]) := HL90.out.sub (.cons _ (.cons_cons _ (.cons_cons _ (.cons_cons _ (.cons_cons _ (.cons_cons _ (.cons_cons _ (.cons _ (.cons _ (.cons_cons _ (.cons_cons _ (.cons_cons _ (List.Sublist.refl [])))))))))))))
  clear HL90
  clear HCL
  go_wp2_with fail
  refine (HTA.out ⟨#[99]⟩ 65000 _ (by decide) (by decide)).mono ?_
  rintro e w49 ⟨⟨b36, rfl, hp⟩, hb⟩
  have HL93 : Hid (Led w w49 [Ent.fact V37.heap.size (fun W => AtrOk W x26), Ent.box k26 x26.ar 33, Ent.fact V36.heap.size (fun W => AtrOk W x24), Ent.box k24 x24.ar 33, Ent.fact V29.heap.size (fun W => PthOk W v), Ent.box k21 v.ar 37, Ent.box k2 (mkPth 2 b2).ar 37, Ent.fact k2 (fun W => PthOk W (mkPth 2 b2)), Ent.box k1 g0.ar 49]) := HL91.out.below hb
  clear hb HL91
  have HL94 : Hid (Led w w49 [Ent.fact w49.heap.size (fun W => PrOk W (mkPr ⟨#[99]⟩ 65000 b36)), Ent.fact V37.heap.size (fun W => AtrOk W x26), Ent.box k26 x26.ar 33, Ent.fact V36.heap.size (fun W => AtrOk W x24), Ent.box k24 x24.ar 33, Ent.fact V29.heap.size (fun W => PthOk W v), Ent.box k21 v.ar 37, Ent.box k2 (mkPth 2 b2).ar 37, Ent.fact k2 (fun W => PthOk W (mkPth 2 b2)), Ent.box k1 g0.ar 49]) := HL93.out.know (steady_pr _) hp
  clear HL93
  clear hp
  go_upto_region 36 with (with_reducible show wpList _ _ _ (_ :: _) _ _; refine wpList_new_row rfl _ (.tmp 36) (.tmp 201) rfl rfl (mkPr ⟨#[99]⟩ 65000 b36).ar rfl 23 peerZ rfl rfl (pr_ones _) ?_)
  intro V50 HC HB
  have HL95 : Hid (Led w V50 [Ent.box w49.heap.size (mkPr ⟨#[99]⟩ 65000 b36).ar 40, Ent.fact w49.heap.size (fun W => PrOk W (mkPr ⟨#[99]⟩ 65000 b36)), Ent.fact V37.heap.size (fun W => AtrOk W x26), Ent.box k26 x26.ar 33, Ent.fact V36.heap.size (fun W => AtrOk W x24), Ent.box k24 x24.ar 33, Ent.fact V29.heap.size (fun W => PthOk W v), Ent.box k21 v.ar 37, Ent.box k2 (mkPth 2 b2).ar 37, Ent.fact k2 (fun W => PthOk W (mkPth 2 b2)), Ent.box k1 g0.ar 49]) := HL94.out.push HC.out HB.out
  obtain ⟨k36, hk⟩ : ∃ k, k = w49.heap.size := ⟨_, rfl⟩
  rw [← hk] at HL95 ⊢
  clear hk HC HB HL94
  have c2 : V50.cell? ⟨k36, 22, none⟩ = some (.bool false) := ((HL95.out.box 0 rfl).c 22).trans rfl
  have c3 : V50.frozen? ⟨k36, 22, none⟩ = false := (HL95.out.box 0 rfl).unfrozen 22
  go_upto_region 37 with fail
  refine rb_name fun V51 hV => ?_
  obtain ⟨self, hself⟩ : ∃ x : Pr, x = { (mkPr ⟨#[99]⟩ 65000 b36) with selfNext := true } := ⟨_, rfl⟩
  have HL96 : Hid (Led w V51 [Ent.box k36 self.ar 40, Ent.fact k36 (fun W => PrOk W (mkPr ⟨#[99]⟩ 65000 b36)), Ent.fact V37.heap.size (fun W => AtrOk W x26), Ent.box k26 x26.ar 33, Ent.fact V36.heap.size (fun W => AtrOk W x24), Ent.box k24 x24.ar 33, Ent.fact V29.heap.size (fun W => PthOk W v), Ent.box k21 v.ar 37, Ent.box k2 (mkPth 2 b2).ar 37, Ent.fact k2 (fun W => PthOk W (mkPth 2 b2)), Ent.box k1 g0.ar 49]) := by
    rw [hV]
    refine Led.set (l1 := []) HL95.out (fun e he => by cases he) (grown_setCell _ ⟨k36, 22, none⟩ _) ?_
    have h := (HL95.out.box 0 rfl).setAt 22 (.bool true)
    rw [hself]
    exact h
  clear c2 c3 hV HL95
  have HSELF := Lib.hid hself
  clear hself
  have HL97 : Hid (Led w V51 [Ent.box k36 self.ar 40, Ent.fact V37.heap.size (fun W => AtrOk W x26), Ent.box k26 x26.ar 33, Ent.fact V36.heap.size (fun W => AtrOk W x24), Ent.box k24 x24.ar 33, Ent.fact V29.heap.size (fun W => PthOk W v), Ent.box k21 v.ar 37, Ent.box k2 (mkPth 2 b2).ar 37, Ent.fact k2 (fun W => PthOk W (mkPth 2 b2)), Ent.box k1 g0.ar 49]) := HL96.out.sub (.cons_cons _ (.cons _ (.cons_cons _ (.cons_cons _ (.cons_cons _ (.cons_cons _ (.cons_cons _ (.cons_cons _ (.cons_cons _ (.cons_cons _ (.cons_cons _ (List.Sublist.refl []))))))))))))
  clear HL96
  go_cut [0] (fun v0 wx => v0 = .bool true ∧ Hid (Below w.heap.size w wx))
  case first =>
    rename_i J K hJ hK
    refine wp_mono (draw_37 w _ _ _ _ _ _ _ _ _ _ _ _ _ _ _ _ _ _ HL97 HV.out HSELF.out HX24.out HX26.out _ _ _ _ _ _ _ _ _ _ _ _ _ _ _ _ _ _ _ _ _ _ _ _ _ _ _ _ _ _ _ _ _ _ _ _ _ _ _ _ _ _ _ _ _ _ _ _ _ _ _ _ _ _ _ _ _ _ _ _ _ _ _ _ _ _ _ _ _ _ _ _ _ _ _ _ _ _ _ _ _ _ _ _ _ _ _ _ _ _ _ _ _ _ _ _ _ _ _ _ _ _ _ _ _ _ _ _ _ _ _ _ _ _ _ _ _ _ _ _ _ _ _ _ _ _ _ _ _ _ _ _ _ _ _ _ _ _ _ _ _ _ _ _ _ _ _ _ _ _ _ _ _ _ _ _ _ _ _ _ _ _ _ _ _ _ _ _ _ _ _ _ _ _ _ _ _ _ _ _ _ _ _ _ _ _ _ _ _ _ _ _ _ _ _ _ _ _ _ _ _ _ _ _ _ _ _ _ _ _ _ _ _ _ _ _ _ _ _ _ _ _ _ _ _ _ _ _ _ _ _ _ _ _ _ _ _ _ _ _ _ _ _ _ _ _ _ _ _ _ _ _ _ _ _ _ _ _ _ _ _ _ _ _ _ _ rfl) ?_
    rintro e a' w' ⟨rfl, d203, d204, d205, d206, d207, d208, d209, d210, d211, d212, d213, d214, d215, d216, d217, d218, d219, d220, d221, d222, d223, d224, d225, d226, d227, d228, d229, d230, d231, d232, d233, d234, d235, d236, d237, d238, d239, d240, d241, d242, d243, d244, d245, d246, d247, d248, d249, d250, d251, d252, d253, d254, d255, d256, d257, d258, d259, d260, d261, d262, d263, d264, d265, d266, d267, d268, d269, d270, d271, d272, d273, d274, d275, rfl, hxx⟩
    refine hK _ _ (Met.intro (hJ _ _ ?_))
    (repeat apply Exists.intro)
    refine ⟨?_, rfl⟩
    exact ⟨rfl, hxx⟩
  case rest =>
  obtain ⟨rfl, hbx⟩ := hcut
  go_wp2_with fail
  go_ret
  exact ⟨rfl, hbx.out⟩
end Go.Proofs.YtojiieghjhjoaaaGreat
