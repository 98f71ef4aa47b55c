/-
  Several texts in one.
-/
import Derived.Test.YtojiieghjhjoaaaGreatAT50
import Derived.Test.YtojiieghjhjoaaaGreatAT52
set_option linter.unusedVariables false
set_option linter.unusedSimpArgs false
namespace Go.Proofs.YtojiieghjhjoaaaGreat
open Go.RowKit Go.MapKept Go.Shelf
open Go.Lib hiding intOf

/-- what lies in memory when the answers are compared -/
structure MA (w V : World) (s k7 k8 k9 k11 k13 : Nat) (g : Cfg) (p p' : Pth) (t : Pr) (a c b : Atr) : Prop where
  bx : Bu w V s g p t
  q7 : CellsAt V k7 p'.ar 37
  q8 : CellsAt V k8 g.ar 49
  q9 : CellsAt V k9 a.ar 33
  q11 : CellsAt V k11 c.ar 33
  q13 : CellsAt V k13 b.ar 33
  ao : AtrOk V a
  co : AtrOk V c
  bo : AtrOk V b
structure MT (w V : World) (s k7 k8 k9 k11 k13 k16 : Nat) (g : Cfg) (p p' : Pth) (t : Pr) (a c b d : Atr) : Prop where
  m : MA w V s k7 k8 k9 k11 k13 g p p' t a c b
  q16 : CellsAt V k16 d.ar 33
  d : AtrOk V d
section
variable {w V V' : World} {s k7 k8 k9 k11 k13 k16 : Nat} {g : Cfg} {p p' : Pth} {t : Pr} {a c b d : Atr}
theorem MA.below (h : MA w V s k7 k8 k9 k11 k13 g p p' t a c b) (hb : Below V.heap.size V V') : MA w V' s k7 k8 k9 k11 k13 g p p' t a c b := ⟨h.bx.below hb, h.q7.below hb h.q7.lt, h.q8.below hb h.q8.lt, h.q9.below hb h.q9.lt, h.q11.below hb h.q11.lt, h.q13.below hb h.q13.lt, h.ao.below hb (Nat.le_refl _), h.co.below hb (Nat.le_refl _), h.bo.below hb (Nat.le_refl _)⟩
theorem MT.below (h : MT w V s k7 k8 k9 k11 k13 k16 g p p' t a c b d) (hb : Below V.heap.size V V') : MT w V' s k7 k8 k9 k11 k13 k16 g p p' t a c b d := ⟨h.m.below hb, h.q16.below hb h.q16.lt, h.d.below hb (Nat.le_refl _)⟩
end
theorem attrsF_err (g : Cfg) (p : Pth) (t : Pr) (h : ((attrsF g p t).2 == 0) = false) : (attrsF g p t).1 = noC := by
  unfold attrsF at h ⊢
  split
  · rfl
  · rename_i h1
    rw [if_neg h1] at h
    split
    · rfl
    · rename_i h2
      rw [if_neg h2] at h
      cases h
theorem told_arms (g : Cfg) (p : Pth) (t : Pr) : (mayF g p t = false ∧ toldF g p t = (noC, false)) ∨ (mayF g p t = true ∧ ((attrsF g p t).2 == 0) = true ∧ toldF g p t = ((attrsF g p t).1, true)) ∨ (mayF g p t = true ∧ ((attrsF g p t).2 == 0) = false ∧ toldF g p t = (noC, false)) := by
  unfold toldF
  cases hm : mayF g p t with
  | false => exact .inl ⟨rfl, by rw [if_pos rfl]⟩
  | true =>
    cases he : (attrsF g p t).2 == 0 with
    | true => exact .inr (.inl ⟨rfl, rfl, by rw [if_neg (by simp)]⟩)
    | false => exact .inr (.inr ⟨rfl, rfl, by rw [if_neg (by simp), attrsF_err g p t he]⟩)
section
variable {g : Cfg} {p : Pth} {t : Pr} {a' : Atr}
theorem may_c (hc : a'.c = p.a.c) : mayF g ({ p with a := a' } : Pth) t = mayF g p t := by unfold mayF mayPathF; rw [show ({ p with a := a' } : Pth).a.c = p.a.c from hc, show ({ p with a := a' } : Pth).a.comms = p.a.comms from congrArg AtC.comms hc]
theorem next_c (hc : a'.c = p.a.c) : nextF g ({ p with a := a' } : Pth) t = nextF g p t := by unfold nextF; rw [show ({ p with a := a' } : Pth).a.next = p.a.next from congrArg AtC.next hc]
theorem attrs_c (hc : a'.c = p.a.c) : attrsF g ({ p with a := a' } : Pth) t = attrsF g p t := by
  have h1 : mayPathF ({ p with a := a' } : Pth) = mayPathF p := by unfold mayPathF; rw [show ({ p with a := a' } : Pth).a.c = p.a.c from hc]
  have h2 : turnF g ({ p with a := a' } : Pth) t = turnF g p t := by unfold turnF; rw [next_c hc, show ({ p with a := a' } : Pth).a.c = p.a.c from hc]
  unfold attrsF
  rw [h1, h2, next_c hc]
theorem told_c (hc : a'.c = p.a.c) : toldF g ({ p with a := a' } : Pth) t = toldF g p t := by
  unfold toldF
  rw [may_c hc, attrs_c hc]
end
set_option maxRecDepth 100000 in
set_option maxHeartbeats 32000000 in
theorem exportattrs_walk (g : Cfg) (p : Pth) (t : Pr) (w : World) (hg : g.Ok) (hp : PthOk w p) (ht : PrOk w t) : Calls Tryz.prog 4 #[.agg g.us, .agg p.ar, .agg t.ar] w fun e w' => e = .returned (.bool true) ∧ Below w.heap.size w w' := by
  have HOWN : Hid (∀ W, Below w.heap.size w W → Calls Tryz.prog 9 #[.agg p.ar] W fun e w' => (∃ a' : Atr, e = .returned (.agg ({ p with a := a' } : Pth).ar) ∧ AtO w' W.heap.size a' ∧ a'.c = p.a.c) ∧ Below W.heap.size W w') := fun W hW => own_any p W (hp.below hW (Nat.le_refl _))
  have HCF := Lib.hid (conf_any g)
  obtain ⟨m, hm⟩ : ∃ x, x = mayF g p t := ⟨_, rfl⟩
  obtain ⟨R, hR⟩ : ∃ x, x = attrsF g p t := ⟨_, rfl⟩
  obtain ⟨T, hT⟩ : ∃ x, x = toldF g p t := ⟨_, rfl⟩
  obtain ⟨N, hN⟩ : ∃ x, x = nextF g p t := ⟨_, rfl⟩
  have HARM : Hid ((m = false ∧ T = (noC, false)) ∨ (m = true ∧ (R.2 == 0) = true ∧ T = (R.1, true)) ∨ (m = true ∧ (R.2 == 0) = false ∧ T = (noC, false))) := by rw [hm, hR, hT]; exact told_arms g p t
  have HAT : Hid (∀ (W : World) (a' : Atr), PthOk W ({ p with a := a' } : Pth) → PrOk W t → a'.c = p.a.c → Calls Tryz.prog 15 #[.agg g.ar, .agg ({ p with a := a' } : Pth).ar, .agg t.ar] W (AttrsP W R)) := fun W a' h1 h2 h3 => by rw [hR, ← attrs_c h3]; exact attrs_any g _ t W hg h1 h2
  have HTO : Hid (∀ (W : World) (a' : Atr), PthOk W ({ p with a := a' } : Pth) → PrOk W t → a'.c = p.a.c → Calls Tryz.prog 17 #[.agg g.ar, .agg ({ p with a := a' } : Pth).ar, .agg t.ar] W (ToldP W T)) := fun W a' h1 h2 h3 => by rw [hT, ← told_c h3]; exact told_any g _ t W hg h1 h2
  have HNE : Hid (∀ (W : World) (a' : Atr), a'.c = p.a.c → Calls Tryz.prog 18 #[.agg g.ar, .agg ({ p with a := a' } : Pth).ar, .agg t.ar] W fun e w' => e = .returned (.string N) ∧ Below W.heap.size W w') := fun W a' h3 => by rw [hN, ← next_c h3]; exact next_any g _ t W
  have HRA : Hid (∀ W, PthOk W p → PrOk W t → Calls Tryz.prog 16 #[.agg g.ar, .agg p.ar, .agg t.ar] W (AttrsP W R)) := fun W h1 h2 => by rw [hR]; exact rattrs_any g p t W hg h1 h2
  have HRM : Hid (∀ W, PthOk W p → PrOk W t → Calls Tryz.prog 12 #[.agg g.ar, .agg p.ar, .agg t.ar] W fun e w' => e = .returned (.bool m) ∧ Below W.heap.size W w') := fun W h1 h2 => by rw [hm]; exact rmay_any28 g p t W h1 h2
  have HRN : Hid (∀ W, Calls Tryz.prog 19 #[.agg g.ar, .agg p.ar, .agg t.ar] W fun e w' => e = .returned (.string N) ∧ Below W.heap.size W w') := fun W => by rw [hN]; exact rnext_any g p t W
  have HSA : Hid (∀ (W : World) (x y : Atr), AtrOk W x → AtrOk W y → x.c = y.c → Calls Tryz.prog 13 #[.agg x.ar, .agg y.ar] W fun e w' => e = .returned (.bool true) ∧ Below W.heap.size W w') := fun W x y h1 h2 hc => by
    have h := rsame_any x y W h1 h2
    rwa [decide_eq_true hc] at h
  have HSP : Hid (∀ (a : Atr) (base : Nat) (w0 w : World), AtO w0 base a → (∀ i, base ≤ i → i < w0.heap.size → w.heap[i]? = w0.heap[i]?) → w0.heap.size ≤ w.heap.size → Calls Tryz.prog 20 #[.agg a.ar] w fun e w' => e = .returned (.tuple #[]) ∧ GrownX (fun b => base ≤ b ∧ b < w0.heap.size) w w') := spoil28_in
  have HWK := Lib.hid works_any
  have HP := Lib.hid hp
  have HT := Lib.hid ht
  obtain ⟨RC, E⟩ := R
  obtain ⟨TC, q⟩ := T
  clear hm hR hT hN hp ht hg
  go_enter Tryz.func4, Tryz.ntmps4
  go_upto_region 1 with fail
  refine rb_name fun V0 hV0 => ?_
  have hbx := Bu.start w g p t
  obtain ⟨s, hs⟩ : ∃ s, s = w.heap.size := ⟨_, rfl⟩
  have HB0 : Hid (Bu w V0 s g p t) := by rw [hV0, hs]; exact hbx
  have HS : Hid (s = w.heap.size) := hs
  rw [← hs]
  clear hV0 hbx hs
  go_wp2_with (with_reducible show wpList _ _ _ (_ :: _) _ _; refine wpList_load_path (by kernel_rfl) (.tmp 4) rfl (s + 1) rfl p (Lib.hid HB0.out.p) ?_)
  refine (HOWN.out _ HB0.out.b).mono ?_
  rintro e w1 ⟨⟨a', rfl, ho, hc⟩, hb⟩
  have HC := Lib.hid hc
  have HO := Lib.hid ho
  have HB1 : Hid (Bu w w1 s g p t) := HB0.out.below hb
  have HX1 : Hid (s + 1 + 1 < V0.heap.size) := HB0.out.sz
  obtain ⟨b0, hb0⟩ : ∃ x, x = V0.heap.size := ⟨_, rfl⟩
  rw [← hb0] at HO HX1
  have HB01 : Hid (b0 ≤ w1.heap.size) := by rw [hb0]; exact hb.size
  clear hb0 ho hc hb HB0 HOWN
  go_upto_region 2 with (with_reducible show wpList _ _ _ (_ :: _) _ _; refine wpList_new_row rfl _ (.tmp 7) (.tmp 18) rfl rfl ({ p with a := a' } : Pth).ar rfl 29 pathZ rfl rfl (pth_ones ({ p with a := a' } : Pth)) ?_)
  intro V2 HK7 HB
  obtain ⟨k7, hk⟩ : ∃ k, k = w1.heap.size := ⟨_, rfl⟩
  rw [← hk] at HK7
  have HB2 : Hid (Bu w V2 s g p t) := HB1.out.below HB.out
  have HW12 : Hid (Below w1.heap.size w1 V2) := HB
  rw [← hk]
  have HKW : Hid (k7 = w1.heap.size) := hk
  clear hk HB HB1
  go_wp2_with (with_reducible show wpList _ _ _ (_ :: _) _ _; refine wpList_load_row (by kernel_rfl) 24 (.tmp 3) rfl s 0 rfl g.us (whole_range HB2.out.c) usS 5 usZ rfl ?_)
  refine (HCF.out _).mono ?_
  rintro e w2 ⟨rfl, hb⟩
  have HB3 : Hid (Bu w w2 s g p t) := HB2.out.below hb
  have HQ3 : Hid (CellsAt w2 k7 ({ p with a := a' } : Pth).ar 37) := HK7.out.below hb HK7.out.lt
  have HW13 : Hid (Below w1.heap.size w1 w2) := HW12.out.trans (hb.mono HW12.out.size)
  clear hb HB2 HK7 HW12
  go_upto_region 3 with (with_reducible show wpList _ _ _ (_ :: _) _ _; refine wpList_new_row rfl _ (.tmp 8) (.tmp 20) rfl rfl g.ar rfl 13 confZ rfl rfl (cfg_ones g) ?_)
  intro V3 HK8 HB
  obtain ⟨k8, hk⟩ : ∃ k, k = w2.heap.size := ⟨_, rfl⟩
  rw [← hk] at HK8
  have HB4 : Hid (Bu w V3 s g p t) := HB3.out.below HB.out
  have HQ4 : Hid (CellsAt V3 k7 ({ p with a := a' } : Pth).ar 37) := HQ3.out.below HB.out HQ3.out.lt
  have HW14 : Hid (Below w1.heap.size w1 V3) := HW13.out.trans (HB.out.mono HW13.out.size)
  rw [← hk]
  clear hk HB HB3 HQ3 HW13
  have HPO : Hid (PthOk V3 p) := HP.out.below HB4.out.b (Nat.le_refl _)
  have HTO4 : Hid (PrOk V3 t) := HT.out.below HB4.out.b (Nat.le_refl _)
  have HAO4 : Hid (AtrOk V3 a') := HO.out.ok.below HW14.out (Nat.le_refl _)
  have HQO : Hid (PthOk V3 ({ p with a := a' } : Pth)) := HPO.out.withA HAO4.out HC.out
  go_wp2_with (with_reducible show wpList _ _ _ (_ :: _) _ _; first | refine wpList_load_conf (by kernel_rfl) (.tmp 8) rfl k8 rfl g (Lib.hid HK8.out) ?_ | refine wpList_load_path (by kernel_rfl) (.tmp 7) rfl k7 rfl ({ p with a := a' } : Pth) (Lib.hid HQ4.out) ?_ | refine wpList_load_peer (by kernel_rfl) (.tmp 5) rfl (s + 1 + 1) rfl t (Lib.hid HB4.out.t) ?_)
  refine (HAT.out _ a' HQO.out HTO4.out HC.out).mono ?_
  rintro e w5 ⟨x1, rfl, ho1, hc1, hb⟩
  simp only at hc1
  have HO1 := Lib.hid ho1
  have HE1 := Lib.hid hc1
  obtain ⟨b1, hb1⟩ : ∃ x, x = V3.heap.size := ⟨_, rfl⟩
  rw [← hb1] at HO1
  have HLE1 : Hid (b1 ≤ w5.heap.size) := by rw [hb1]; exact hb.size
  have HL71 : Hid (k7 < b1) := by rw [hb1]; exact HQ4.out.lt
  have HL81 : Hid (k8 < b1) := by rw [hb1]; exact HK8.out.lt
  have HLS1 : Hid (s + 1 + 1 < b1) := by rw [hb1]; exact HB4.out.sz
  have HB5 : Hid (Bu w w5 s g p t) := HB4.out.below hb
  have HQ5 : Hid (CellsAt w5 k7 ({ p with a := a' } : Pth).ar 37) := HQ4.out.below hb HQ4.out.lt
  have HC5 : Hid (CellsAt w5 k8 g.ar 49) := HK8.out.below hb HK8.out.lt
  have HW15 : Hid (Below w1.heap.size w1 w5) := HW14.out.trans (hb.mono HW14.out.size)
  have HWB1 : Hid (w1.heap.size ≤ b1) := by rw [hb1]; exact HW14.out.size
  clear hb1 ho1 hc1 hb HB4 HQ4 HK8 HW14 HPO HTO4 HAO4 HQO
  go_upto_region 4 with (with_reducible show wpList _ _ _ (_ :: _) _ _; refine wpList_new_row rfl _ (.tmp 9) (.tmp 26) rfl rfl x1.ar rfl 16 atZ rfl rfl (attrs_ones x1) ?_)
  intro V5 HK9 HB
  obtain ⟨k9, hk⟩ : ∃ k, k = w5.heap.size := ⟨_, rfl⟩
  rw [← hk] at HK9
  have HB6 : Hid (Bu w V5 s g p t) := HB5.out.below HB.out
  have HQ6 : Hid (CellsAt V5 k7 ({ p with a := a' } : Pth).ar 37) := HQ5.out.below HB.out HQ5.out.lt
  have HC6 : Hid (CellsAt V5 k8 g.ar 49) := HC5.out.below HB.out HC5.out.lt
  have HW16 : Hid (Below w1.heap.size w1 V5) := HW15.out.trans (HB.out.mono HW15.out.size)
  have HW56 : Hid (Below w5.heap.size w5 V5) := HB
  rw [← hk]
  clear hk HB HB5 HQ5 HC5 HW15
  have HPO : Hid (PthOk V5 p) := HP.out.below HB6.out.b (Nat.le_refl _)
  have HTO6 : Hid (PrOk V5 t) := HT.out.below HB6.out.b (Nat.le_refl _)
  go_wp2_with (with_reducible show wpList _ _ _ (_ :: _) _ _; first | refine wpList_load_conf (by kernel_rfl) (.tmp 8) rfl k8 rfl g (Lib.hid HC6.out) ?_ | refine wpList_load_path (by kernel_rfl) (.tmp 4) rfl (s + 1) rfl p (Lib.hid HB6.out.p) ?_ | refine wpList_load_peer (by kernel_rfl) (.tmp 5) rfl (s + 1 + 1) rfl t (Lib.hid HB6.out.t) ?_)
  refine (HRA.out _ HPO.out HTO6.out).mono ?_
  rintro e w7 ⟨x2, rfl, ho2, hc2, hb⟩
  simp only at hc2
  have HO2 : Hid (AtrOk w7 x2) := ho2.ok
  have HE2 := Lib.hid hc2
  have HB7 : Hid (Bu w w7 s g p t) := HB6.out.below hb
  have HQ7 : Hid (CellsAt w7 k7 ({ p with a := a' } : Pth).ar 37) := HQ6.out.below hb HQ6.out.lt
  have HC7 : Hid (CellsAt w7 k8 g.ar 49) := HC6.out.below hb HC6.out.lt
  have HD7 : Hid (CellsAt w7 k9 x1.ar 33) := HK9.out.below hb HK9.out.lt
  have HW17 : Hid (Below w1.heap.size w1 w7) := HW16.out.trans (hb.mono HW16.out.size)
  have HW57 : Hid (Below w5.heap.size w5 w7) := HW56.out.trans (hb.mono HW56.out.size)
  clear ho2 hc2 hb HB6 HQ6 HC6 HK9 HW16 HW56 HPO HTO6
  go_upto_region 5 with (with_reducible show wpList _ _ _ (_ :: _) _ _; refine wpList_new_row rfl _ (.tmp 11) (.tmp 33) rfl rfl x2.ar rfl 16 atZ rfl rfl (attrs_ones x2) ?_)
  intro V8 HK11 HB
  obtain ⟨k11, hk⟩ : ∃ k, k = w7.heap.size := ⟨_, rfl⟩
  rw [← hk] at HK11
  have HB8 : Hid (Bu w V8 s g p t) := HB7.out.below HB.out
  have HQ8 : Hid (CellsAt V8 k7 ({ p with a := a' } : Pth).ar 37) := HQ7.out.below HB.out HQ7.out.lt
  have HC8 : Hid (CellsAt V8 k8 g.ar 49) := HC7.out.below HB.out HC7.out.lt
  have HD8 : Hid (CellsAt V8 k9 x1.ar 33) := HD7.out.below HB.out HD7.out.lt
  have HF8 : Hid (AtrOk V8 x2) := HO2.out.below HB.out (Nat.le_refl _)
  have HW18 : Hid (Below w1.heap.size w1 V8) := HW17.out.trans (HB.out.mono HW17.out.size)
  have HW58 : Hid (Below w5.heap.size w5 V8) := HW57.out.trans (HB.out.mono HW57.out.size)
  rw [← hk]
  clear hk HB HB7 HQ7 HC7 HD7 HO2 HW17 HW57
  have HPO : Hid (PthOk V8 p) := HP.out.below HB8.out.b (Nat.le_refl _)
  have HTO8 : Hid (PrOk V8 t) := HT.out.below HB8.out.b (Nat.le_refl _)
  have HAO8 : Hid (AtrOk V8 a') := HO.out.ok.below HW18.out (Nat.le_refl _)
  have HQO : Hid (PthOk V8 ({ p with a := a' } : Pth)) := HPO.out.withA HAO8.out HC.out
  go_wp2_with (with_reducible show wpList _ _ _ (_ :: _) _ _; first | refine wpList_load_conf (by kernel_rfl) (.tmp 8) rfl k8 rfl g (Lib.hid HC8.out) ?_ | refine wpList_load_path (by kernel_rfl) (.tmp 7) rfl k7 rfl ({ p with a := a' } : Pth) (Lib.hid HQ8.out) ?_ | refine wpList_load_peer (by kernel_rfl) (.tmp 5) rfl (s + 1 + 1) rfl t (Lib.hid HB8.out.t) ?_)
  refine (HTO.out _ a' HQO.out HTO8.out HC.out).mono ?_
  rintro e w9 ⟨x3, rfl, ho3, hc3, hb⟩
  simp only at hc3
  have HO3 := Lib.hid ho3
  have HE3 := Lib.hid hc3
  obtain ⟨b3, hb3⟩ : ∃ x, x = V8.heap.size := ⟨_, rfl⟩
  rw [← hb3] at HO3
  have HLE3 : Hid (b3 ≤ w9.heap.size) := by rw [hb3]; exact hb.size
  have HL13 : Hid (w5.heap.size ≤ b3) := by rw [hb3]; exact HW58.out.size
  have HB9 : Hid (Bu w w9 s g p t) := HB8.out.below hb
  have HQ9 : Hid (CellsAt w9 k7 ({ p with a := a' } : Pth).ar 37) := HQ8.out.below hb HQ8.out.lt
  have HC9 : Hid (CellsAt w9 k8 g.ar 49) := HC8.out.below hb HC8.out.lt
  have HD9 : Hid (CellsAt w9 k9 x1.ar 33) := HD8.out.below hb HD8.out.lt
  have HG9 : Hid (CellsAt w9 k11 x2.ar 33) := HK11.out.below hb HK11.out.lt
  have HF9 : Hid (AtrOk w9 x2) := HF8.out.below hb (Nat.le_refl _)
  have HW19 : Hid (Below w1.heap.size w1 w9) := HW18.out.trans (hb.mono HW18.out.size)
  have HW59 : Hid (Below w5.heap.size w5 w9) := HW58.out.trans (hb.mono HW58.out.size)
  clear hb3 ho3 hc3 hb HB8 HQ8 HC8 HD8 HF8 HK11 HW18 HW58 HPO HTO8 HAO8 HQO
  go_upto_region 6 with (with_reducible show wpList _ _ _ (_ :: _) _ _; refine wpList_new_row rfl _ (.tmp 13) (.tmp 40) rfl rfl x3.ar rfl 16 atZ rfl rfl (attrs_ones x3) ?_)
  intro VA HK13 HB
  obtain ⟨k13, hk⟩ : ∃ k, k = w9.heap.size := ⟨_, rfl⟩
  rw [← hk] at HK13
  have HW1A : Hid (Below w1.heap.size w1 VA) := HW19.out.trans (HB.out.mono HW19.out.size)
  have HW5A : Hid (Below w5.heap.size w5 VA) := HW59.out.trans (HB.out.mono HW59.out.size)
  have HW9A : Hid (Below w9.heap.size w9 VA) := HB
  have HMA : Hid (MA w VA s k7 k8 k9 k11 k13 g p ({ p with a := a' } : Pth) t x1 x2 x3) := ⟨HB9.out.below HB.out, HQ9.out.below HB.out HQ9.out.lt, HC9.out.below HB.out HC9.out.lt, HD9.out.below HB.out HD9.out.lt, HG9.out.below HB.out HG9.out.lt, HK13.out, HO1.out.ok.below HW5A.out (Nat.le_refl _), HF9.out.below HB.out (Nat.le_refl _), HO3.out.ok.below HB.out (Nat.le_refl _)⟩
  rw [← hk]
  have HKL : Hid (w9.heap.size ≤ k13) := by show _ ≤ _; omega
  clear hk HB HB9 HQ9 HC9 HD9 HG9 HF9 HW19 HW59 HK13
  have HPO : Hid (PthOk VA p) := HP.out.below HMA.out.bx.b (Nat.le_refl _)
  have HTOA : Hid (PrOk VA t) := HT.out.below HMA.out.bx.b (Nat.le_refl _)
  go_wp2_with (with_reducible show wpList _ _ _ (_ :: _) _ _; first | refine wpList_load_conf (by kernel_rfl) (.tmp 8) rfl k8 rfl g (Lib.hid HMA.out.q8) ?_ | refine wpList_load_path (by kernel_rfl) (.tmp 4) rfl (s + 1) rfl p (Lib.hid HMA.out.bx.p) ?_ | refine wpList_load_peer (by kernel_rfl) (.tmp 5) rfl (s + 1 + 1) rfl t (Lib.hid HMA.out.bx.t) ?_)
  refine (HRM.out _ HPO.out HTOA.out).mono ?_
  rintro e wB ⟨rfl, hb⟩
  have HMB : Hid (MA w wB s k7 k8 k9 k11 k13 g p ({ p with a := a' } : Pth) t x1 x2 x3) := HMA.out.below hb
  have HW1B : Hid (Below w1.heap.size w1 wB) := HW1A.out.trans (hb.mono HW1A.out.size)
  have HW5B : Hid (Below w5.heap.size w5 wB) := HW5A.out.trans (hb.mono HW5A.out.size)
  have HW9B : Hid (Below w9.heap.size w9 wB) := HW9A.out.trans (hb.mono HW9A.out.size)
  clear hb HMA HW1A HW5A HW9A HPO HTOA
  have HN16 : Hid (∀ cs : Array Value, CellsAt (wB.alloc (.cells cs 33)) wB.heap.size cs 33) := fun cs => CellsAt.new _ _ _
  have harm := HARM.out
  rcases harm with ⟨rfl, hT⟩ | ⟨rfl, hz, hT⟩ | ⟨rfl, hz, hT⟩
  · obtain ⟨rfl, rfl⟩ := Prod.mk.inj hT
    clear hT
    clear HARM
    go_upto_region 8 with fail
    refine rb_name fun VC hVC => ?_
    have HK16 : Hid (CellsAt VC wB.heap.size noAtr.ar 33) := by rw [hVC]; exact HN16.out _
    have HBC : Hid (Below wB.heap.size wB VC) := by rw [hVC]; exact below1 _ _
    obtain ⟨k16, hk⟩ : ∃ k, k = wB.heap.size := ⟨_, rfl⟩
    rw [← hk] at HK16 ⊢
    have HKB : Hid (w9.heap.size ≤ k13) := HKL.out
    clear hVC HN16
    clear hk
    have HMT : Hid (MT w VC s k7 k8 k9 k11 k13 k16 g p ({ p with a := a' } : Pth) t x1 x2 x3 noAtr) := ⟨HMB.out.below HBC.out, HK16.out, (noAtr_own _ 0).ok⟩
    have HW1D : Hid (Below w1.heap.size w1 VC) := HW1B.out.trans (HBC.out.mono HW1B.out.size)
    have HW5D : Hid (Below w5.heap.size w5 VC) := HW5B.out.trans (HBC.out.mono HW5B.out.size)
    have HW9D : Hid (Below w9.heap.size w9 VC) := HW9B.out.trans (HBC.out.mono HW9B.out.size)
    have HED : Hid (x3.c = noAtr.c) := HE3.out
    clear HK16 HBC HMB HW1B HW5B HW9B
    go_upto_region 10 with fail
    refine wp_region_held_drew (S := fun w' => MT w w' s k7 k8 k9 k11 k13 k16 g p ({ p with a := a' } : Pth) t x1 x2 x3 noAtr ∧ Below w1.heap.size w1 w' ∧ Below w5.heap.size w5 w' ∧ Below w9.heap.size w9 w') (by kernel_rfl) (⟨HMT.out.below (below_drewN (Below.refl _ _) 1), below_drewN HW1D.out 1, below_drewN HW5D.out 1, below_drewN HW9D.out 1⟩) (fun hHeld => ?_)
    refine wpAnyH_take (i := 0) (oi := { dst := some 53, op := Op.load 33 (Operand.tmp 9), type := 33, pos := "law.go:66", after := #[], guard := none }) (v := .agg x1.ar) rfl (by kernel_rfl) (by kernel_rfl) (by kernel_rfl) (fun _ _ _ h => h) (yields_row (by rfl) _ _ rfl k9 0 (by rfl) x1.ar atS 16 atZ rfl (fun w h => whole_range h.1.m.q9)) hHeld ?_
    try simp only [Act.put, List.setIfInBounds_toArray, List.set_cons_zero, List.set_cons_succ]
    refine wpAnyH_take (i := 1) (oi := { dst := some 54, op := Op.load 33 (Operand.tmp 11), type := 33, pos := "law.go:66", after := #[], guard := none }) (v := .agg x2.ar) rfl (by kernel_rfl) (by kernel_rfl) (by kernel_rfl) (fun _ _ _ h => h) (yields_row (by rfl) _ _ rfl k11 0 (by rfl) x2.ar atS 16 atZ rfl (fun w h => whole_range h.1.m.q11)) hHeld ?_
    try simp only [Act.put, List.setIfInBounds_toArray, List.set_cons_zero, List.set_cons_succ]
    refine wpAnyH_ready (rs := [2]) (by kernel_rfl) (by simp) ?_
    refine AllReadyH.cons (o := { dst := some 55, op := Op.call { callee := Callee.value (Operand.func 13), args := #[Operand.tmp 53, Operand.tmp 54], argTypes := #[33, 33] }, type := 4, pos := "law.go:66", after := #[{ on := 0, ground := Ground.data }, { on := 1, ground := Ground.data }], guard := none }) rfl (fun K hK => ?_) AllReadyH.nil
    go_simp
    refine (HSA.out _ x1 x2 hHeld.1.m.ao hHeld.1.m.co (HE1.out.trans HE2.out.symm)).mono ?_
    rintro e wD ⟨rfl, hb1⟩
    have HS1 := Lib.hid hHeld
    refine hK.out _ _ (⟨HS1.out.1.below hb1, HS1.out.2.1.trans (hb1.mono HS1.out.2.1.size), HS1.out.2.2.1.trans (hb1.mono HS1.out.2.2.1.size), HS1.out.2.2.2.trans (hb1.mono HS1.out.2.2.2.size)⟩) (fun hHeld => ?_)
    clear hK K
    try simp only [Act.put, List.setIfInBounds_toArray, List.set_cons_zero, List.set_cons_succ]
    refine wpAnyH_take (i := 3) (oi := { dst := some 56, op := Op.unOp UnOp.not 4 (Operand.tmp 55), type := 4, pos := "law.go:66", after := #[{ on := 2, ground := Ground.data }], guard := none }) (v := ?_) rfl (by kernel_rfl) (by kernel_rfl) (by kernel_rfl) (fun _ _ _ h => h) (Or.inl ⟨by rfl, ?_⟩) hHeld ?_
    rotate_left
    · intro w hSw
      clear hSw
      go_simp
      try with_reducible rfl
    try simp only [Act.put, List.setIfInBounds_toArray, List.set_cons_zero, List.set_cons_succ]
    refine wpAnyH_take (i := 4) (oi := { dst := some 57, op := Op.move (Operand.tmp 56), type := 4, pos := "law.go:66", after := #[{ on := 3, ground := Ground.data }, { on := 2, ground := Ground.chain }], guard := none }) (v := ?_) rfl (by kernel_rfl) (by kernel_rfl) (by kernel_rfl) (fun _ _ _ h => h) (Or.inl ⟨by rfl, ?_⟩) hHeld ?_
    rotate_left
    · intro w hSw
      clear hSw
      go_simp
      try with_reducible rfl
    try simp only [Act.put, List.setIfInBounds_toArray, List.set_cons_zero, List.set_cons_succ]
    refine wpAnyH_take (i := 5) (oi := { dst := some 58, op := Op.move (Operand.tmp 10), type := 54, pos := "law.go:66", after := #[{ on := 4, ground := Ground.guard }], guard := some (4, false) }) (v := ?_) rfl (by kernel_rfl) (by kernel_rfl) (by kernel_rfl) (fun _ _ _ h => h) (Or.inl ⟨by rfl, ?_⟩) hHeld ?_
    rotate_left
    · intro w hSw
      clear hSw
      go_simp
      try with_reducible rfl
    try simp only [Act.put, List.setIfInBounds_toArray, List.set_cons_zero, List.set_cons_succ]
    refine wpAnyH_take (i := 6) (oi := { dst := some 59, op := Op.move (Operand.tmp 12), type := 54, pos := "law.go:66", after := #[{ on := 4, ground := Ground.guard }], guard := some (4, false) }) (v := ?_) rfl (by kernel_rfl) (by kernel_rfl) (by kernel_rfl) (fun _ _ _ h => h) (Or.inl ⟨by rfl, ?_⟩) hHeld ?_
    rotate_left
    · intro w hSw
      clear hSw
      go_simp
      try with_reducible rfl
    try simp only [Act.put, List.setIfInBounds_toArray, List.set_cons_zero, List.set_cons_succ]
    refine wpAnyH_take (i := 7) (oi := { dst := some 60, op := Op.binOp BinOp.neq 54 (Operand.tmp 58) (Operand.tmp 59) 54, type := 4, pos := "law.go:66", after := #[{ on := 5, ground := Ground.data }, { on := 6, ground := Ground.data }, { on := 4, ground := Ground.guard }], guard := some (4, false) }) (v := ?_) rfl (by kernel_rfl) (by kernel_rfl) (by kernel_rfl) (fun _ _ _ h => h) (Or.inl ⟨by rfl, ?_⟩) hHeld ?_
    rotate_left
    · intro w hSw
      clear hSw
      go_simp
      try with_reducible rfl
    try simp only [Act.put, List.setIfInBounds_toArray, List.set_cons_zero, List.set_cons_succ]
    refine wpAnyH_take (i := 8) (oi := { dst := some 61, op := Op.pick (Operand.tmp 57) (Operand.const (Value.bool true)) (Operand.tmp 60), type := 4, pos := "law.go:66", after := #[{ on := 4, ground := Ground.data }, { on := 7, ground := Ground.data }], guard := none }) (v := ?_) rfl (by kernel_rfl) (by kernel_rfl) (by kernel_rfl) (fun _ _ _ h => h) (Or.inl ⟨by rfl, ?_⟩) hHeld ?_
    rotate_left
    · intro w hSw
      clear hSw
      go_simp
      try with_reducible rfl
    try simp only [Act.put, List.setIfInBounds_toArray, List.set_cons_zero, List.set_cons_succ]
    refine wpAnyH_take (i := 9) (oi := { dst := some 62, op := Op.move (Operand.tmp 61), type := 4, pos := "law.go:66", after := #[{ on := 8, ground := Ground.data }, { on := 4, ground := Ground.chain }], guard := none }) (v := ?_) rfl (by kernel_rfl) (by kernel_rfl) (by kernel_rfl) (fun _ _ _ h => h) (Or.inl ⟨by rfl, ?_⟩) hHeld ?_
    rotate_left
    · intro w hSw
      clear hSw
      go_simp
      try with_reducible rfl
    try simp only [Act.put, List.setIfInBounds_toArray, List.set_cons_zero, List.set_cons_succ]
    refine wpAnyH_take (i := 10) (oi := { dst := some 63, op := Op.load 33 (Operand.tmp 13), type := 33, pos := "law.go:66", after := #[{ on := 9, ground := Ground.guard }], guard := some (9, false) }) (v := .agg x3.ar) rfl (by kernel_rfl) (by kernel_rfl) (by kernel_rfl) (fun _ _ _ h => h) (yields_row (by rfl) _ _ rfl k13 0 (by rfl) x3.ar atS 16 atZ rfl (fun w h => whole_range h.1.m.q13)) hHeld ?_
    try simp only [Act.put, List.setIfInBounds_toArray, List.set_cons_zero, List.set_cons_succ]
    refine wpAnyH_take (i := 11) (oi := { dst := some 64, op := Op.load 33 (Operand.tmp 16), type := 33, pos := "law.go:66", after := #[{ on := 9, ground := Ground.guard }], guard := some (9, false) }) (v := .agg noAtr.ar) rfl (by kernel_rfl) (by kernel_rfl) (by kernel_rfl) (fun _ _ _ h => h) (yields_row (by rfl) _ _ rfl k16 0 (by rfl) noAtr.ar atS 16 atZ rfl (fun w h => whole_range h.1.q16)) hHeld ?_
    try simp only [Act.put, List.setIfInBounds_toArray, List.set_cons_zero, List.set_cons_succ]
    refine wpAnyH_ready (rs := [12]) (by kernel_rfl) (by simp) ?_
    refine AllReadyH.cons (o := { dst := some 65, op := Op.call { callee := Callee.value (Operand.func 13), args := #[Operand.tmp 63, Operand.tmp 64], argTypes := #[33, 33] }, type := 4, pos := "law.go:66", after := #[{ on := 10, ground := Ground.data }, { on := 11, ground := Ground.data }, { on := 9, ground := Ground.chain }, { on := 9, ground := Ground.guard }], guard := some (9, false) }) rfl (fun K hK => ?_) AllReadyH.nil
    go_simp
    refine (HSA.out _ x3 noAtr hHeld.1.m.bo hHeld.1.d HED.out).mono ?_
    rintro e wE ⟨rfl, hb2⟩
    have HS2 := Lib.hid hHeld
    refine hK.out _ _ (⟨HS2.out.1.below hb2, HS2.out.2.1.trans (hb2.mono HS2.out.2.1.size), HS2.out.2.2.1.trans (hb2.mono HS2.out.2.2.1.size), HS2.out.2.2.2.trans (hb2.mono HS2.out.2.2.2.size)⟩) (fun hHeld => ?_)
    clear hK K
    try simp only [Act.put, List.setIfInBounds_toArray, List.set_cons_zero, List.set_cons_succ]
    refine wpAnyH_take (i := 13) (oi := { dst := some 66, op := Op.unOp UnOp.not 4 (Operand.tmp 65), type := 4, pos := "law.go:66", after := #[{ on := 12, ground := Ground.data }, { on := 9, ground := Ground.guard }], guard := some (9, false) }) (v := ?_) rfl (by kernel_rfl) (by kernel_rfl) (by kernel_rfl) (fun _ _ _ h => h) (Or.inl ⟨by rfl, ?_⟩) hHeld ?_
    rotate_left
    · intro w hSw
      clear hSw
      go_simp
      try with_reducible rfl
    try simp only [Act.put, List.setIfInBounds_toArray, List.set_cons_zero, List.set_cons_succ]
    refine wpAnyH_take (i := 14) (oi := { dst := some 67, op := Op.pick (Operand.tmp 62) (Operand.const (Value.bool true)) (Operand.tmp 66), type := 4, pos := "law.go:66", after := #[{ on := 9, ground := Ground.data }, { on := 13, ground := Ground.data }], guard := none }) (v := ?_) rfl (by kernel_rfl) (by kernel_rfl) (by kernel_rfl) (fun _ _ _ h => h) (Or.inl ⟨by rfl, ?_⟩) hHeld ?_
    rotate_left
    · intro w hSw
      clear hSw
      go_simp
      try with_reducible rfl
    try simp only [Act.put, List.setIfInBounds_toArray, List.set_cons_zero, List.set_cons_succ]
    refine wpAnyH_take (i := 15) (oi := { dst := some 68, op := Op.move (Operand.tmp 67), type := 4, pos := "law.go:66", after := #[{ on := 14, ground := Ground.data }, { on := 12, ground := Ground.chain }], guard := none }) (v := ?_) rfl (by kernel_rfl) (by kernel_rfl) (by kernel_rfl) (fun _ _ _ h => h) (Or.inl ⟨by rfl, ?_⟩) hHeld ?_
    rotate_left
    · intro w hSw
      clear hSw
      go_simp
      try with_reducible rfl
    try simp only [Act.put, List.setIfInBounds_toArray, List.set_cons_zero, List.set_cons_succ]
    refine wpAnyH_take (i := 16) (oi := { dst := some 69, op := Op.move (Operand.tmp 14), type := 4, pos := "law.go:66", after := #[{ on := 15, ground := Ground.guard }], guard := some (15, false) }) (v := ?_) rfl (by kernel_rfl) (by kernel_rfl) (by kernel_rfl) (fun _ _ _ h => h) (Or.inl ⟨by rfl, ?_⟩) hHeld ?_
    rotate_left
    · intro w hSw
      clear hSw
      go_simp
      try with_reducible rfl
    try simp only [Act.put, List.setIfInBounds_toArray, List.set_cons_zero, List.set_cons_succ]
    refine wpAnyH_take (i := 17) (oi := { dst := some 70, op := Op.move (Operand.tmp 15), type := 4, pos := "law.go:66", after := #[{ on := 15, ground := Ground.guard }], guard := some (15, false) }) (v := ?_) rfl (by kernel_rfl) (by kernel_rfl) (by kernel_rfl) (fun _ _ _ h => h) (Or.inl ⟨by rfl, ?_⟩) hHeld ?_
    rotate_left
    · intro w hSw
      clear hSw
      go_simp
      try with_reducible rfl
    try simp only [Act.put, List.setIfInBounds_toArray, List.set_cons_zero, List.set_cons_succ]
    refine wpAnyH_take (i := 18) (oi := { dst := some 71, op := Op.binOp BinOp.neq 4 (Operand.tmp 69) (Operand.tmp 70) 4, type := 4, pos := "law.go:66", after := #[{ on := 16, ground := Ground.data }, { on := 17, ground := Ground.data }, { on := 15, ground := Ground.guard }], guard := some (15, false) }) (v := ?_) rfl (by kernel_rfl) (by kernel_rfl) (by kernel_rfl) (fun _ _ _ h => h) (Or.inl ⟨by rfl, ?_⟩) hHeld ?_
    rotate_left
    · intro w hSw
      clear hSw
      go_simp
      try with_reducible rfl
    try simp only [Act.put, List.setIfInBounds_toArray, List.set_cons_zero, List.set_cons_succ]
    refine wpAnyH_take (i := 19) (oi := { dst := some 72, op := Op.pick (Operand.tmp 68) (Operand.const (Value.bool true)) (Operand.tmp 71), type := 4, pos := "law.go:66", after := #[{ on := 15, ground := Ground.data }, { on := 18, ground := Ground.data }], guard := none }) (v := ?_) rfl (by kernel_rfl) (by kernel_rfl) (by kernel_rfl) (fun _ _ _ h => h) (Or.inl ⟨by rfl, ?_⟩) hHeld ?_
    rotate_left
    · intro w hSw
      clear hSw
      go_simp
      try with_reducible rfl
    try simp only [Act.put, List.setIfInBounds_toArray, List.set_cons_zero, List.set_cons_succ]
    refine wpAnyH_take (i := 20) (oi := { dst := some 73, op := Op.move (Operand.tmp 72), type := 4, pos := "law.go:66", after := #[{ on := 19, ground := Ground.data }, { on := 15, ground := Ground.chain }], guard := none }) (v := ?_) rfl (by kernel_rfl) (by kernel_rfl) (by kernel_rfl) (fun _ _ _ h => h) (Or.inl ⟨by rfl, ?_⟩) hHeld ?_
    rotate_left
    · intro w hSw
      clear hSw
      go_simp
      try with_reducible rfl
    try simp only [Act.put, List.setIfInBounds_toArray, List.set_cons_zero, List.set_cons_succ]
    refine wpAnyH_take (i := 21) (oi := { dst := some 74, op := Op.load 49 (Operand.tmp 8), type := 49, pos := "law.go:66", after := #[{ on := 20, ground := Ground.guard }], guard := some (20, false) }) (v := .agg g.ar) rfl (by kernel_rfl) (by kernel_rfl) (by kernel_rfl) (fun _ _ _ h => h) (yields_row (by rfl) _ _ rfl k8 0 (by rfl) g.ar confS 13 confZ rfl (fun w h => whole_range h.1.m.q8)) hHeld ?_
    try simp only [Act.put, List.setIfInBounds_toArray, List.set_cons_zero, List.set_cons_succ]
    refine wpAnyH_take (i := 22) (oi := { dst := some 75, op := Op.load 37 (Operand.tmp 7), type := 37, pos := "law.go:66", after := #[{ on := 20, ground := Ground.guard }], guard := some (20, false) }) (v := .agg ({ p with a := a' } : Pth).ar) rfl (by kernel_rfl) (by kernel_rfl) (by kernel_rfl) (fun _ _ _ h => h) (yields_row (by rfl) _ _ rfl k7 0 (by rfl) ({ p with a := a' } : Pth).ar pathS 29 pathZ rfl (fun w h => whole_range h.1.m.q7)) hHeld ?_
    try simp only [Act.put, List.setIfInBounds_toArray, List.set_cons_zero, List.set_cons_succ]
    refine wpAnyH_take (i := 23) (oi := { dst := some 76, op := Op.load 40 (Operand.tmp 5), type := 40, pos := "law.go:66", after := #[{ on := 20, ground := Ground.guard }], guard := some (20, false) }) (v := .agg t.ar) rfl (by kernel_rfl) (by kernel_rfl) (by kernel_rfl) (fun _ _ _ h => h) (yields_row (by rfl) _ _ rfl (s + 1 + 1) 0 (by rfl) t.ar peerS 23 peerZ rfl (fun w h => whole_range h.1.m.bx.t)) hHeld ?_
    try simp only [Act.put, List.setIfInBounds_toArray, List.set_cons_zero, List.set_cons_succ]
    refine wpAnyH_take (i := 25) (oi := { dst := some 78, op := Op.load 49 (Operand.tmp 8), type := 49, pos := "law.go:66", after := #[{ on := 20, ground := Ground.guard }], guard := some (20, false) }) (v := .agg g.ar) rfl (by kernel_rfl) (by kernel_rfl) (by kernel_rfl) (fun _ _ _ h => h) (yields_row (by rfl) _ _ rfl k8 0 (by rfl) g.ar confS 13 confZ rfl (fun w h => whole_range h.1.m.q8)) hHeld ?_
    try simp only [Act.put, List.setIfInBounds_toArray, List.set_cons_zero, List.set_cons_succ]
    refine wpAnyH_take (i := 26) (oi := { dst := some 79, op := Op.load 37 (Operand.tmp 4), type := 37, pos := "law.go:66", after := #[{ on := 20, ground := Ground.guard }], guard := some (20, false) }) (v := .agg p.ar) rfl (by kernel_rfl) (by kernel_rfl) (by kernel_rfl) (fun _ _ _ h => h) (yields_row (by rfl) _ _ rfl (s + 1) 0 (by rfl) p.ar pathS 29 pathZ rfl (fun w h => whole_range h.1.m.bx.p)) hHeld ?_
    try simp only [Act.put, List.setIfInBounds_toArray, List.set_cons_zero, List.set_cons_succ]
    refine wpAnyH_take (i := 27) (oi := { dst := some 80, op := Op.load 40 (Operand.tmp 5), type := 40, pos := "law.go:66", after := #[{ on := 20, ground := Ground.guard }], guard := some (20, false) }) (v := .agg t.ar) rfl (by kernel_rfl) (by kernel_rfl) (by kernel_rfl) (fun _ _ _ h => h) (yields_row (by rfl) _ _ rfl (s + 1 + 1) 0 (by rfl) t.ar peerS 23 peerZ rfl (fun w h => whole_range h.1.m.bx.t)) hHeld ?_
    try simp only [Act.put, List.setIfInBounds_toArray, List.set_cons_zero, List.set_cons_succ]
    refine wpAnyH_ready (rs := [24]) (by kernel_rfl) (by simp) ?_
    refine AllReadyH.cons (o := { dst := some 77, op := Op.call { callee := Callee.value (Operand.func 18), args := #[Operand.tmp 74, Operand.tmp 75, Operand.tmp 76], argTypes := #[49, 37, 40] }, type := 9, pos := "law.go:66", after := #[{ on := 21, ground := Ground.data }, { on := 22, ground := Ground.data }, { on := 23, ground := Ground.data }, { on := 20, ground := Ground.chain }, { on := 20, ground := Ground.guard }], guard := some (20, false) }) rfl (fun K hK => ?_) AllReadyH.nil
    go_simp
    refine (HNE.out _ a' HC.out).mono ?_
    rintro e wF ⟨rfl, hb3⟩
    have HS3 := Lib.hid hHeld
    refine hK.out _ _ (⟨HS3.out.1.below hb3, HS3.out.2.1.trans (hb3.mono HS3.out.2.1.size), HS3.out.2.2.1.trans (hb3.mono HS3.out.2.2.1.size), HS3.out.2.2.2.trans (hb3.mono HS3.out.2.2.2.size)⟩) (fun hHeld => ?_)
    clear hK K
    try simp only [Act.put, List.setIfInBounds_toArray, List.set_cons_zero, List.set_cons_succ]
    refine wpAnyH_ready (rs := [28]) (by kernel_rfl) (by simp) ?_
    refine AllReadyH.cons (o := { dst := some 81, op := Op.call { callee := Callee.value (Operand.func 19), args := #[Operand.tmp 78, Operand.tmp 79, Operand.tmp 80], argTypes := #[49, 37, 40] }, type := 9, pos := "law.go:66", after := #[{ on := 25, ground := Ground.data }, { on := 26, ground := Ground.data }, { on := 27, ground := Ground.data }, { on := 24, ground := Ground.chain }, { on := 20, ground := Ground.guard }], guard := some (20, false) }) rfl (fun K hK => ?_) AllReadyH.nil
    go_simp
    refine (HRN.out _).mono ?_
    rintro e wG ⟨rfl, hb4⟩
    have HS4 := Lib.hid hHeld
    refine hK.out _ _ (⟨HS4.out.1.below hb4, HS4.out.2.1.trans (hb4.mono HS4.out.2.1.size), HS4.out.2.2.1.trans (hb4.mono HS4.out.2.2.1.size), HS4.out.2.2.2.trans (hb4.mono HS4.out.2.2.2.size)⟩) (fun hHeld => ?_)
    clear hK K
    try simp only [Act.put, List.setIfInBounds_toArray, List.set_cons_zero, List.set_cons_succ]
    refine wpAnyH_take (i := 29) (oi := { dst := some 82, op := Op.binOp BinOp.neq 9 (Operand.tmp 77) (Operand.tmp 81) 9, type := 4, pos := "law.go:66", after := #[{ on := 24, ground := Ground.data }, { on := 28, ground := Ground.data }, { on := 20, ground := Ground.guard }], guard := some (20, false) }) (v := ?_) rfl (by kernel_rfl) (by kernel_rfl) (by kernel_rfl) (fun _ _ _ h => h) (Or.inl ⟨by rfl, ?_⟩) hHeld ?_
    rotate_left
    · intro w hSw
      clear hSw
      go_simp
      try with_reducible rfl
    try simp only [Act.put, List.setIfInBounds_toArray, List.set_cons_zero, List.set_cons_succ]
    refine wpAnyH_take (i := 30) (oi := { dst := some 83, op := Op.pick (Operand.tmp 73) (Operand.const (Value.bool true)) (Operand.tmp 82), type := 4, pos := "law.go:66", after := #[{ on := 20, ground := Ground.data }, { on := 29, ground := Ground.data }], guard := none }) (v := ?_) rfl (by kernel_rfl) (by kernel_rfl) (by kernel_rfl) (fun _ _ _ h => h) (Or.inl ⟨by rfl, ?_⟩) hHeld ?_
    rotate_left
    · intro w hSw
      clear hSw
      go_simp
      try with_reducible rfl
    try simp only [Act.put, List.setIfInBounds_toArray, List.set_cons_zero, List.set_cons_succ]
    refine wpAnyH_done (by kernel_rfl) ?_ _
    obtain ⟨hm1, hw1, hw5, hw9⟩ := hHeld
    clear HMT HW1D HW5D HW9D
    have HM := Lib.hid hm1
    have HW1 := Lib.hid hw1
    have HW5 := Lib.hid hw5
    have HW9 := Lib.hid hw9
    clear hm1 hw1 hw5 hw9
    go_wp2_with (with_reducible show wpList _ _ _ (_ :: _) _ _; refine wpList_load_attrs (by kernel_rfl) (.tmp 9) rfl k9 rfl x1 HM.out.m.q9 ?_)
    refine (HSP.out x1 b1 w5 _ HO1.out (fun i _ h => HW5.out.block i h) HW5.out.size).mono ?_
    rintro e WI ⟨rfl, hgx⟩
    have HGX := Lib.hid hgx
    clear hgx
    have HQI : Hid (CellsAt WI k13 x3.ar 33) := HM.out.m.q13.grownX HGX.out (fun h => by have := HKB.out; have := HL13.out; have := HLE3.out; omega)
    go_wp2_with (with_reducible show wpList _ _ _ (_ :: _) _ _; refine wpList_load_attrs (by kernel_rfl) (.tmp 13) rfl k13 rfl x3 HQI.out ?_)
    refine (HSP.out x3 b3 w9 _ HO3.out (fun i h1 h2 => (HGX.out.block i (Nat.lt_of_lt_of_le h2 HW9.out.size) (fun h => by have := HL13.out; omega)).trans (HW9.out.block i h2)) (Nat.le_trans HW9.out.size HGX.out.size)).mono ?_
    rintro e WJ ⟨rfl, hgx⟩
    have HGY := Lib.hid hgx
    clear hgx HQI
    have HK7 : Hid (CellsAt WJ k7 ({ p with a := a' } : Pth).ar 37) := (HM.out.m.q7.grownX HGX.out (fun h => by have := HL71.out; omega)).grownX HGY.out (fun h => by have := HL71.out; have := HL13.out; have := HLE1.out; omega)
    have HPJ : Hid (CellsAt WJ (s + 1) p.ar 37) := (HM.out.m.bx.p.grownX HGX.out (fun h => by have := HLS1.out; omega)).grownX HGY.out (fun h => by have := HLS1.out; have := HL13.out; have := HLE1.out; omega)
    have HBI : Hid (Below w.heap.size w WI) := HGX.out.below HM.out.m.bx.b (fun i h => by have := HLS1.out; have := HS.out; omega) HM.out.m.bx.b.size
    have HBJ : Hid (Below w.heap.size w WJ) := HGY.out.below HBI.out (fun i h => by have := HLS1.out; have := HS.out; have := HL13.out; have := HLE1.out; omega) HBI.out.size
    have HAJ : Hid (AtrOk WJ a') := (HO.out.keep (fun i h1 h2 => by
      have e1 := HW1.out.block i h2
      have l1 := HWB1.out
      have l2 := HW1.out.size
      have l3 := HL13.out
      have l4 := HLE1.out
      have l5 := HGX.out.size
      exact ((HGY.out.block i (by omega) (fun h => by omega)).trans (HGX.out.block i (by omega) (fun h => by omega))).trans e1)).ok
    have HPK : Hid (AtrOk WJ p.a) := HP.out.a.below HBJ.out (Nat.le_refl _)
    go_wp2_with (with_reducible show wpList _ _ _ (_ :: _) _ _; first | refine wpList_load_pat (by kernel_rfl) (.tmp 88) rfl k7 rfl ({ p with a := a' } : Pth) (Lib.hid HK7.out) ?_ | refine wpList_load_pat (by kernel_rfl) (.tmp 90) rfl (s + 1) rfl p (Lib.hid HPJ.out) ?_)
    refine (HSA.out _ a' p.a HAJ.out HPK.out HC.out).mono ?_
    rintro e WK ⟨rfl, hb⟩
    have HBK : Hid (Below w.heap.size w WK) := HBJ.out.trans (hb.mono HBJ.out.size)
    clear hb
    go_wp2_with fail
    refine (HWK.out _).mono ?_
    rintro e WL ⟨rfl, hb⟩
    have HBL : Hid (Below w.heap.size w WL) := HBK.out.trans (hb.mono HBK.out.size)
    clear hb
    go_wp2_with fail
    go_ret
    exact ⟨rfl, HBL.out⟩
  · try simp only at hz
    obtain ⟨rfl, rfl⟩ := Prod.mk.inj hT
    clear hT
    clear HARM
    go_upto_region 8 with fail
    refine rb_name fun VC hVC => ?_
    have HK16 : Hid (CellsAt VC wB.heap.size noAtr.ar 33) := by rw [hVC]; exact HN16.out _
    have HBC : Hid (Below wB.heap.size wB VC) := by rw [hVC]; exact below1 _ _
    obtain ⟨k16, hk⟩ : ∃ k, k = wB.heap.size := ⟨_, rfl⟩
    rw [← hk] at HK16 ⊢
    have HKB : Hid (w9.heap.size ≤ k13) := HKL.out
    clear hVC HN16
    have HKK := Lib.hid hk
    clear hk
    have HMC : Hid (MA w VC s k7 k8 k9 k11 k13 g p ({ p with a := a' } : Pth) t x1 x2 x3) := HMB.out.below HBC.out
    go_upto_region 10 with (with_reducible show wpList _ _ _ (_ :: _) _ _; first | refine wpList_load_attrs (by kernel_rfl) (.tmp 11) rfl k11 rfl x2 HMC.out.q11 ?_ | refine wpList_over_row rfl 33 (.tmp 16) (.tmp 52) rfl k16 rfl x2.ar rfl 16 atZ rfl rfl HK16.out (attrs_ones x2) ?_)
    intro VD HKD HGD
    have HBD : Hid (Below wB.heap.size wB VD) := HBC.out.grown HGD.out HBC.out.size (fun k h => by injection h with h; have := HKK.out; omega)
    have HMD := HMB.out.below HBD.out
    have HMT : Hid (MT w VD s k7 k8 k9 k11 k13 k16 g p ({ p with a := a' } : Pth) t x1 x2 x3 x2) := ⟨HMD, HKD.out, HMD.co⟩
    have HW1D : Hid (Below w1.heap.size w1 VD) := HW1B.out.trans (HBD.out.mono HW1B.out.size)
    have HW5D : Hid (Below w5.heap.size w5 VD) := HW5B.out.trans (HBD.out.mono HW5B.out.size)
    have HW9D : Hid (Below w9.heap.size w9 VD) := HW9B.out.trans (HBD.out.mono HW9B.out.size)
    have HED : Hid (x3.c = x2.c) := HE3.out.trans HE2.out.symm
    clear HK16 HBC HBD HMC HMD HMB HW1B HW5B HW9B HKD HGD
    go_upto_region 10 with fail
    refine wp_region_held_drew (S := fun w' => MT w w' s k7 k8 k9 k11 k13 k16 g p ({ p with a := a' } : Pth) t x1 x2 x3 x2 ∧ Below w1.heap.size w1 w' ∧ Below w5.heap.size w5 w' ∧ Below w9.heap.size w9 w') (by kernel_rfl) (⟨HMT.out.below (below_drewN (Below.refl _ _) 1), below_drewN HW1D.out 1, below_drewN HW5D.out 1, below_drewN HW9D.out 1⟩) (fun hHeld => ?_)
    refine wpAnyH_take (i := 0) (oi := { dst := some 53, op := Op.load 33 (Operand.tmp 9), type := 33, pos := "law.go:66", after := #[], guard := none }) (v := .agg x1.ar) rfl (by kernel_rfl) (by kernel_rfl) (by kernel_rfl) (fun _ _ _ h => h) (yields_row (by rfl) _ _ rfl k9 0 (by rfl) x1.ar atS 16 atZ rfl (fun w h => whole_range h.1.m.q9)) hHeld ?_
    try simp only [Act.put, List.setIfInBounds_toArray, List.set_cons_zero, List.set_cons_succ]
    refine wpAnyH_take (i := 1) (oi := { dst := some 54, op := Op.load 33 (Operand.tmp 11), type := 33, pos := "law.go:66", after := #[], guard := none }) (v := .agg x2.ar) rfl (by kernel_rfl) (by kernel_rfl) (by kernel_rfl) (fun _ _ _ h => h) (yields_row (by rfl) _ _ rfl k11 0 (by rfl) x2.ar atS 16 atZ rfl (fun w h => whole_range h.1.m.q11)) hHeld ?_
    try simp only [Act.put, List.setIfInBounds_toArray, List.set_cons_zero, List.set_cons_succ]
    refine wpAnyH_ready (rs := [2]) (by kernel_rfl) (by simp) ?_
    refine AllReadyH.cons (o := { dst := some 55, op := Op.call { callee := Callee.value (Operand.func 13), args := #[Operand.tmp 53, Operand.tmp 54], argTypes := #[33, 33] }, type := 4, pos := "law.go:66", after := #[{ on := 0, ground := Ground.data }, { on := 1, ground := Ground.data }], guard := none }) rfl (fun K hK => ?_) AllReadyH.nil
    go_simp
    refine (HSA.out _ x1 x2 hHeld.1.m.ao hHeld.1.m.co (HE1.out.trans HE2.out.symm)).mono ?_
    rintro e wD ⟨rfl, hb1⟩
    have HS1 := Lib.hid hHeld
    refine hK.out _ _ (⟨HS1.out.1.below hb1, HS1.out.2.1.trans (hb1.mono HS1.out.2.1.size), HS1.out.2.2.1.trans (hb1.mono HS1.out.2.2.1.size), HS1.out.2.2.2.trans (hb1.mono HS1.out.2.2.2.size)⟩) (fun hHeld => ?_)
    clear hK K
    try simp only [Act.put, List.setIfInBounds_toArray, List.set_cons_zero, List.set_cons_succ]
    refine wpAnyH_take (i := 3) (oi := { dst := some 56, op := Op.unOp UnOp.not 4 (Operand.tmp 55), type := 4, pos := "law.go:66", after := #[{ on := 2, ground := Ground.data }], guard := none }) (v := ?_) rfl (by kernel_rfl) (by kernel_rfl) (by kernel_rfl) (fun _ _ _ h => h) (Or.inl ⟨by rfl, ?_⟩) hHeld ?_
    rotate_left
    · intro w hSw
      clear hSw
      go_simp
      try with_reducible rfl
    try simp only [Act.put, List.setIfInBounds_toArray, List.set_cons_zero, List.set_cons_succ]
    refine wpAnyH_take (i := 4) (oi := { dst := some 57, op := Op.move (Operand.tmp 56), type := 4, pos := "law.go:66", after := #[{ on := 3, ground := Ground.data }, { on := 2, ground := Ground.chain }], guard := none }) (v := ?_) rfl (by kernel_rfl) (by kernel_rfl) (by kernel_rfl) (fun _ _ _ h => h) (Or.inl ⟨by rfl, ?_⟩) hHeld ?_
    rotate_left
    · intro w hSw
      clear hSw
      go_simp
      try with_reducible rfl
    try simp only [Act.put, List.setIfInBounds_toArray, List.set_cons_zero, List.set_cons_succ]
    refine wpAnyH_take (i := 5) (oi := { dst := some 58, op := Op.move (Operand.tmp 10), type := 54, pos := "law.go:66", after := #[{ on := 4, ground := Ground.guard }], guard := some (4, false) }) (v := ?_) rfl (by kernel_rfl) (by kernel_rfl) (by kernel_rfl) (fun _ _ _ h => h) (Or.inl ⟨by rfl, ?_⟩) hHeld ?_
    rotate_left
    · intro w hSw
      clear hSw
      go_simp
      try with_reducible rfl
    try simp only [Act.put, List.setIfInBounds_toArray, List.set_cons_zero, List.set_cons_succ]
    refine wpAnyH_take (i := 6) (oi := { dst := some 59, op := Op.move (Operand.tmp 12), type := 54, pos := "law.go:66", after := #[{ on := 4, ground := Ground.guard }], guard := some (4, false) }) (v := ?_) rfl (by kernel_rfl) (by kernel_rfl) (by kernel_rfl) (fun _ _ _ h => h) (Or.inl ⟨by rfl, ?_⟩) hHeld ?_
    rotate_left
    · intro w hSw
      clear hSw
      go_simp
      try with_reducible rfl
    try simp only [Act.put, List.setIfInBounds_toArray, List.set_cons_zero, List.set_cons_succ]
    refine wpAnyH_take (i := 7) (oi := { dst := some 60, op := Op.binOp BinOp.neq 54 (Operand.tmp 58) (Operand.tmp 59) 54, type := 4, pos := "law.go:66", after := #[{ on := 5, ground := Ground.data }, { on := 6, ground := Ground.data }, { on := 4, ground := Ground.guard }], guard := some (4, false) }) (v := ?_) rfl (by kernel_rfl) (by kernel_rfl) (by kernel_rfl) (fun _ _ _ h => h) (Or.inl ⟨by rfl, ?_⟩) hHeld ?_
    rotate_left
    · intro w hSw
      clear hSw
      go_simp
      try with_reducible rfl
    try simp only [Act.put, List.setIfInBounds_toArray, List.set_cons_zero, List.set_cons_succ]
    refine wpAnyH_take (i := 8) (oi := { dst := some 61, op := Op.pick (Operand.tmp 57) (Operand.const (Value.bool true)) (Operand.tmp 60), type := 4, pos := "law.go:66", after := #[{ on := 4, ground := Ground.data }, { on := 7, ground := Ground.data }], guard := none }) (v := ?_) rfl (by kernel_rfl) (by kernel_rfl) (by kernel_rfl) (fun _ _ _ h => h) (Or.inl ⟨by rfl, ?_⟩) hHeld ?_
    rotate_left
    · intro w hSw
      clear hSw
      go_simp
      try with_reducible rfl
    try simp only [Act.put, List.setIfInBounds_toArray, List.set_cons_zero, List.set_cons_succ]
    refine wpAnyH_take (i := 9) (oi := { dst := some 62, op := Op.move (Operand.tmp 61), type := 4, pos := "law.go:66", after := #[{ on := 8, ground := Ground.data }, { on := 4, ground := Ground.chain }], guard := none }) (v := ?_) rfl (by kernel_rfl) (by kernel_rfl) (by kernel_rfl) (fun _ _ _ h => h) (Or.inl ⟨by rfl, ?_⟩) hHeld ?_
    rotate_left
    · intro w hSw
      clear hSw
      go_simp
      try with_reducible rfl
    try simp only [Act.put, List.setIfInBounds_toArray, List.set_cons_zero, List.set_cons_succ]
    refine wpAnyH_take (i := 10) (oi := { dst := some 63, op := Op.load 33 (Operand.tmp 13), type := 33, pos := "law.go:66", after := #[{ on := 9, ground := Ground.guard }], guard := some (9, false) }) (v := .agg x3.ar) rfl (by kernel_rfl) (by kernel_rfl) (by kernel_rfl) (fun _ _ _ h => h) (yields_row (by rfl) _ _ rfl k13 0 (by rfl) x3.ar atS 16 atZ rfl (fun w h => whole_range h.1.m.q13)) hHeld ?_
    try simp only [Act.put, List.setIfInBounds_toArray, List.set_cons_zero, List.set_cons_succ]
    refine wpAnyH_take (i := 11) (oi := { dst := some 64, op := Op.load 33 (Operand.tmp 16), type := 33, pos := "law.go:66", after := #[{ on := 9, ground := Ground.guard }], guard := some (9, false) }) (v := .agg x2.ar) rfl (by kernel_rfl) (by kernel_rfl) (by kernel_rfl) (fun _ _ _ h => h) (yields_row (by rfl) _ _ rfl k16 0 (by rfl) x2.ar atS 16 atZ rfl (fun w h => whole_range h.1.q16)) hHeld ?_
    try simp only [Act.put, List.setIfInBounds_toArray, List.set_cons_zero, List.set_cons_succ]
    refine wpAnyH_ready (rs := [12]) (by kernel_rfl) (by simp) ?_
    refine AllReadyH.cons (o := { dst := some 65, op := Op.call { callee := Callee.value (Operand.func 13), args := #[Operand.tmp 63, Operand.tmp 64], argTypes := #[33, 33] }, type := 4, pos := "law.go:66", after := #[{ on := 10, ground := Ground.data }, { on := 11, ground := Ground.data }, { on := 9, ground := Ground.chain }, { on := 9, ground := Ground.guard }], guard := some (9, false) }) rfl (fun K hK => ?_) AllReadyH.nil
    go_simp
    refine (HSA.out _ x3 x2 hHeld.1.m.bo hHeld.1.d HED.out).mono ?_
    rintro e wE ⟨rfl, hb2⟩
    have HS2 := Lib.hid hHeld
    refine hK.out _ _ (⟨HS2.out.1.below hb2, HS2.out.2.1.trans (hb2.mono HS2.out.2.1.size), HS2.out.2.2.1.trans (hb2.mono HS2.out.2.2.1.size), HS2.out.2.2.2.trans (hb2.mono HS2.out.2.2.2.size)⟩) (fun hHeld => ?_)
    clear hK K
    try simp only [Act.put, List.setIfInBounds_toArray, List.set_cons_zero, List.set_cons_succ]
    refine wpAnyH_take (i := 13) (oi := { dst := some 66, op := Op.unOp UnOp.not 4 (Operand.tmp 65), type := 4, pos := "law.go:66", after := #[{ on := 12, ground := Ground.data }, { on := 9, ground := Ground.guard }], guard := some (9, false) }) (v := ?_) rfl (by kernel_rfl) (by kernel_rfl) (by kernel_rfl) (fun _ _ _ h => h) (Or.inl ⟨by rfl, ?_⟩) hHeld ?_
    rotate_left
    · intro w hSw
      clear hSw
      go_simp
      try with_reducible rfl
    try simp only [Act.put, List.setIfInBounds_toArray, List.set_cons_zero, List.set_cons_succ]
    refine wpAnyH_take (i := 14) (oi := { dst := some 67, op := Op.pick (Operand.tmp 62) (Operand.const (Value.bool true)) (Operand.tmp 66), type := 4, pos := "law.go:66", after := #[{ on := 9, ground := Ground.data }, { on := 13, ground := Ground.data }], guard := none }) (v := ?_) rfl (by kernel_rfl) (by kernel_rfl) (by kernel_rfl) (fun _ _ _ h => h) (Or.inl ⟨by rfl, ?_⟩) hHeld ?_
    rotate_left
    · intro w hSw
      clear hSw
      go_simp
      try with_reducible rfl
    try simp only [Act.put, List.setIfInBounds_toArray, List.set_cons_zero, List.set_cons_succ]
    refine wpAnyH_take (i := 15) (oi := { dst := some 68, op := Op.move (Operand.tmp 67), type := 4, pos := "law.go:66", after := #[{ on := 14, ground := Ground.data }, { on := 12, ground := Ground.chain }], guard := none }) (v := ?_) rfl (by kernel_rfl) (by kernel_rfl) (by kernel_rfl) (fun _ _ _ h => h) (Or.inl ⟨by rfl, ?_⟩) hHeld ?_
    rotate_left
    · intro w hSw
      clear hSw
      go_simp
      try with_reducible rfl
    try simp only [Act.put, List.setIfInBounds_toArray, List.set_cons_zero, List.set_cons_succ]
    refine wpAnyH_take (i := 16) (oi := { dst := some 69, op := Op.move (Operand.tmp 14), type := 4, pos := "law.go:66", after := #[{ on := 15, ground := Ground.guard }], guard := some (15, false) }) (v := ?_) rfl (by kernel_rfl) (by kernel_rfl) (by kernel_rfl) (fun _ _ _ h => h) (Or.inl ⟨by rfl, ?_⟩) hHeld ?_
    rotate_left
    · intro w hSw
      clear hSw
      go_simp
      try with_reducible rfl
    try simp only [Act.put, List.setIfInBounds_toArray, List.set_cons_zero, List.set_cons_succ]
    refine wpAnyH_take (i := 17) (oi := { dst := some 70, op := Op.move (Operand.tmp 15), type := 4, pos := "law.go:66", after := #[{ on := 15, ground := Ground.guard }], guard := some (15, false) }) (v := ?_) rfl (by kernel_rfl) (by kernel_rfl) (by kernel_rfl) (fun _ _ _ h => h) (Or.inl ⟨by rfl, ?_⟩) hHeld ?_
    rotate_left
    · intro w hSw
      clear hSw
      go_simp
      try with_reducible rfl
    try simp only [Act.put, List.setIfInBounds_toArray, List.set_cons_zero, List.set_cons_succ]
    refine wpAnyH_take (i := 18) (oi := { dst := some 71, op := Op.binOp BinOp.neq 4 (Operand.tmp 69) (Operand.tmp 70) 4, type := 4, pos := "law.go:66", after := #[{ on := 16, ground := Ground.data }, { on := 17, ground := Ground.data }, { on := 15, ground := Ground.guard }], guard := some (15, false) }) (v := ?_) rfl (by kernel_rfl) (by kernel_rfl) (by kernel_rfl) (fun _ _ _ h => h) (Or.inl ⟨by rfl, ?_⟩) hHeld ?_
    rotate_left
    · intro w hSw
      clear hSw
      go_simp
      try with_reducible rfl
    try simp only [Act.put, List.setIfInBounds_toArray, List.set_cons_zero, List.set_cons_succ]
    refine wpAnyH_take (i := 19) (oi := { dst := some 72, op := Op.pick (Operand.tmp 68) (Operand.const (Value.bool true)) (Operand.tmp 71), type := 4, pos := "law.go:66", after := #[{ on := 15, ground := Ground.data }, { on := 18, ground := Ground.data }], guard := none }) (v := ?_) rfl (by kernel_rfl) (by kernel_rfl) (by kernel_rfl) (fun _ _ _ h => h) (Or.inl ⟨by rfl, ?_⟩) hHeld ?_
    rotate_left
    · intro w hSw
      clear hSw
      go_simp
      try with_reducible rfl
    try simp only [Act.put, List.setIfInBounds_toArray, List.set_cons_zero, List.set_cons_succ]
    refine wpAnyH_take (i := 20) (oi := { dst := some 73, op := Op.move (Operand.tmp 72), type := 4, pos := "law.go:66", after := #[{ on := 19, ground := Ground.data }, { on := 15, ground := Ground.chain }], guard := none }) (v := ?_) rfl (by kernel_rfl) (by kernel_rfl) (by kernel_rfl) (fun _ _ _ h => h) (Or.inl ⟨by rfl, ?_⟩) hHeld ?_
    rotate_left
    · intro w hSw
      clear hSw
      go_simp
      try with_reducible rfl
    try simp only [Act.put, List.setIfInBounds_toArray, List.set_cons_zero, List.set_cons_succ]
    refine wpAnyH_take (i := 21) (oi := { dst := some 74, op := Op.load 49 (Operand.tmp 8), type := 49, pos := "law.go:66", after := #[{ on := 20, ground := Ground.guard }], guard := some (20, false) }) (v := .agg g.ar) rfl (by kernel_rfl) (by kernel_rfl) (by kernel_rfl) (fun _ _ _ h => h) (yields_row (by rfl) _ _ rfl k8 0 (by rfl) g.ar confS 13 confZ rfl (fun w h => whole_range h.1.m.q8)) hHeld ?_
    try simp only [Act.put, List.setIfInBounds_toArray, List.set_cons_zero, List.set_cons_succ]
    refine wpAnyH_take (i := 22) (oi := { dst := some 75, op := Op.load 37 (Operand.tmp 7), type := 37, pos := "law.go:66", after := #[{ on := 20, ground := Ground.guard }], guard := some (20, false) }) (v := .agg ({ p with a := a' } : Pth).ar) rfl (by kernel_rfl) (by kernel_rfl) (by kernel_rfl) (fun _ _ _ h => h) (yields_row (by rfl) _ _ rfl k7 0 (by rfl) ({ p with a := a' } : Pth).ar pathS 29 pathZ rfl (fun w h => whole_range h.1.m.q7)) hHeld ?_
    try simp only [Act.put, List.setIfInBounds_toArray, List.set_cons_zero, List.set_cons_succ]
    refine wpAnyH_take (i := 23) (oi := { dst := some 76, op := Op.load 40 (Operand.tmp 5), type := 40, pos := "law.go:66", after := #[{ on := 20, ground := Ground.guard }], guard := some (20, false) }) (v := .agg t.ar) rfl (by kernel_rfl) (by kernel_rfl) (by kernel_rfl) (fun _ _ _ h => h) (yields_row (by rfl) _ _ rfl (s + 1 + 1) 0 (by rfl) t.ar peerS 23 peerZ rfl (fun w h => whole_range h.1.m.bx.t)) hHeld ?_
    try simp only [Act.put, List.setIfInBounds_toArray, List.set_cons_zero, List.set_cons_succ]
    refine wpAnyH_take (i := 25) (oi := { dst := some 78, op := Op.load 49 (Operand.tmp 8), type := 49, pos := "law.go:66", after := #[{ on := 20, ground := Ground.guard }], guard := some (20, false) }) (v := .agg g.ar) rfl (by kernel_rfl) (by kernel_rfl) (by kernel_rfl) (fun _ _ _ h => h) (yields_row (by rfl) _ _ rfl k8 0 (by rfl) g.ar confS 13 confZ rfl (fun w h => whole_range h.1.m.q8)) hHeld ?_
    try simp only [Act.put, List.setIfInBounds_toArray, List.set_cons_zero, List.set_cons_succ]
    refine wpAnyH_take (i := 26) (oi := { dst := some 79, op := Op.load 37 (Operand.tmp 4), type := 37, pos := "law.go:66", after := #[{ on := 20, ground := Ground.guard }], guard := some (20, false) }) (v := .agg p.ar) rfl (by kernel_rfl) (by kernel_rfl) (by kernel_rfl) (fun _ _ _ h => h) (yields_row (by rfl) _ _ rfl (s + 1) 0 (by rfl) p.ar pathS 29 pathZ rfl (fun w h => whole_range h.1.m.bx.p)) hHeld ?_
    try simp only [Act.put, List.setIfInBounds_toArray, List.set_cons_zero, List.set_cons_succ]
    refine wpAnyH_take (i := 27) (oi := { dst := some 80, op := Op.load 40 (Operand.tmp 5), type := 40, pos := "law.go:66", after := #[{ on := 20, ground := Ground.guard }], guard := some (20, false) }) (v := .agg t.ar) rfl (by kernel_rfl) (by kernel_rfl) (by kernel_rfl) (fun _ _ _ h => h) (yields_row (by rfl) _ _ rfl (s + 1 + 1) 0 (by rfl) t.ar peerS 23 peerZ rfl (fun w h => whole_range h.1.m.bx.t)) hHeld ?_
    try simp only [Act.put, List.setIfInBounds_toArray, List.set_cons_zero, List.set_cons_succ]
    refine wpAnyH_ready (rs := [24]) (by kernel_rfl) (by simp) ?_
    refine AllReadyH.cons (o := { dst := some 77, op := Op.call { callee := Callee.value (Operand.func 18), args := #[Operand.tmp 74, Operand.tmp 75, Operand.tmp 76], argTypes := #[49, 37, 40] }, type := 9, pos := "law.go:66", after := #[{ on := 21, ground := Ground.data }, { on := 22, ground := Ground.data }, { on := 23, ground := Ground.data }, { on := 20, ground := Ground.chain }, { on := 20, ground := Ground.guard }], guard := some (20, false) }) rfl (fun K hK => ?_) AllReadyH.nil
    go_simp
    refine (HNE.out _ a' HC.out).mono ?_
    rintro e wF ⟨rfl, hb3⟩
    have HS3 := Lib.hid hHeld
    refine hK.out _ _ (⟨HS3.out.1.below hb3, HS3.out.2.1.trans (hb3.mono HS3.out.2.1.size), HS3.out.2.2.1.trans (hb3.mono HS3.out.2.2.1.size), HS3.out.2.2.2.trans (hb3.mono HS3.out.2.2.2.size)⟩) (fun hHeld => ?_)
    clear hK K
    try simp only [Act.put, List.setIfInBounds_toArray, List.set_cons_zero, List.set_cons_succ]
    refine wpAnyH_ready (rs := [28]) (by kernel_rfl) (by simp) ?_
    refine AllReadyH.cons (o := { dst := some 81, op := Op.call { callee := Callee.value (Operand.func 19), args := #[Operand.tmp 78, Operand.tmp 79, Operand.tmp 80], argTypes := #[49, 37, 40] }, type := 9, pos := "law.go:66", after := #[{ on := 25, ground := Ground.data }, { on := 26, ground := Ground.data }, { on := 27, ground := Ground.data }, { on := 24, ground := Ground.chain }, { on := 20, ground := Ground.guard }], guard := some (20, false) }) rfl (fun K hK => ?_) AllReadyH.nil
    go_simp
    refine (HRN.out _).mono ?_
    rintro e wG ⟨rfl, hb4⟩
    have HS4 := Lib.hid hHeld
    refine hK.out _ _ (⟨HS4.out.1.below hb4, HS4.out.2.1.trans (hb4.mono HS4.out.2.1.size), HS4.out.2.2.1.trans (hb4.mono HS4.out.2.2.1.size), HS4.out.2.2.2.trans (hb4.mono HS4.out.2.2.2.size)⟩) (fun hHeld => ?_)
    clear hK K
    try simp only [Act.put, List.setIfInBounds_toArray, List.set_cons_zero, List.set_cons_succ]
    refine wpAnyH_take (i := 29) (oi := { dst := some 82, op := Op.binOp BinOp.neq 9 (Operand.tmp 77) (Operand.tmp 81) 9, type := 4, pos := "law.go:66", after := #[{ on := 24, ground := Ground.data }, { on := 28, ground := Ground.data }, { on := 20, ground := Ground.guard }], guard := some (20, false) }) (v := ?_) rfl (by kernel_rfl) (by kernel_rfl) (by kernel_rfl) (fun _ _ _ h => h) (Or.inl ⟨by rfl, ?_⟩) hHeld ?_
    rotate_left
    · intro w hSw
      clear hSw
      go_simp
      try with_reducible rfl
    try simp only [Act.put, List.setIfInBounds_toArray, List.set_cons_zero, List.set_cons_succ]
    refine wpAnyH_take (i := 30) (oi := { dst := some 83, op := Op.pick (Operand.tmp 73) (Operand.const (Value.bool true)) (Operand.tmp 82), type := 4, pos := "law.go:66", after := #[{ on := 20, ground := Ground.data }, { on := 29, ground := Ground.data }], guard := none }) (v := ?_) rfl (by kernel_rfl) (by kernel_rfl) (by kernel_rfl) (fun _ _ _ h => h) (Or.inl ⟨by rfl, ?_⟩) hHeld ?_
    rotate_left
    · intro w hSw
      clear hSw
      go_simp
      try with_reducible rfl
    try simp only [Act.put, List.setIfInBounds_toArray, List.set_cons_zero, List.set_cons_succ]
    refine wpAnyH_done (by kernel_rfl) ?_ _
    obtain ⟨hm1, hw1, hw5, hw9⟩ := hHeld
    clear HMT HW1D HW5D HW9D
    have HM := Lib.hid hm1
    have HW1 := Lib.hid hw1
    have HW5 := Lib.hid hw5
    have HW9 := Lib.hid hw9
    clear hm1 hw1 hw5 hw9
    go_wp2_with (with_reducible show wpList _ _ _ (_ :: _) _ _; refine wpList_load_attrs (by kernel_rfl) (.tmp 9) rfl k9 rfl x1 HM.out.m.q9 ?_)
    refine (HSP.out x1 b1 w5 _ HO1.out (fun i _ h => HW5.out.block i h) HW5.out.size).mono ?_
    rintro e WI ⟨rfl, hgx⟩
    have HGX := Lib.hid hgx
    clear hgx
    have HQI : Hid (CellsAt WI k13 x3.ar 33) := HM.out.m.q13.grownX HGX.out (fun h => by have := HKB.out; have := HL13.out; have := HLE3.out; omega)
    go_wp2_with (with_reducible show wpList _ _ _ (_ :: _) _ _; refine wpList_load_attrs (by kernel_rfl) (.tmp 13) rfl k13 rfl x3 HQI.out ?_)
    refine (HSP.out x3 b3 w9 _ HO3.out (fun i h1 h2 => (HGX.out.block i (Nat.lt_of_lt_of_le h2 HW9.out.size) (fun h => by have := HL13.out; omega)).trans (HW9.out.block i h2)) (Nat.le_trans HW9.out.size HGX.out.size)).mono ?_
    rintro e WJ ⟨rfl, hgx⟩
    have HGY := Lib.hid hgx
    clear hgx HQI
    have HK7 : Hid (CellsAt WJ k7 ({ p with a := a' } : Pth).ar 37) := (HM.out.m.q7.grownX HGX.out (fun h => by have := HL71.out; omega)).grownX HGY.out (fun h => by have := HL71.out; have := HL13.out; have := HLE1.out; omega)
    have HPJ : Hid (CellsAt WJ (s + 1) p.ar 37) := (HM.out.m.bx.p.grownX HGX.out (fun h => by have := HLS1.out; omega)).grownX HGY.out (fun h => by have := HLS1.out; have := HL13.out; have := HLE1.out; omega)
    have HBI : Hid (Below w.heap.size w WI) := HGX.out.below HM.out.m.bx.b (fun i h => by have := HLS1.out; have := HS.out; omega) HM.out.m.bx.b.size
    have HBJ : Hid (Below w.heap.size w WJ) := HGY.out.below HBI.out (fun i h => by have := HLS1.out; have := HS.out; have := HL13.out; have := HLE1.out; omega) HBI.out.size
    have HAJ : Hid (AtrOk WJ a') := (HO.out.keep (fun i h1 h2 => by
      have e1 := HW1.out.block i h2
      have l1 := HWB1.out
      have l2 := HW1.out.size
      have l3 := HL13.out
      have l4 := HLE1.out
      have l5 := HGX.out.size
      exact ((HGY.out.block i (by omega) (fun h => by omega)).trans (HGX.out.block i (by omega) (fun h => by omega))).trans e1)).ok
    have HPK : Hid (AtrOk WJ p.a) := HP.out.a.below HBJ.out (Nat.le_refl _)
    go_wp2_with (with_reducible show wpList _ _ _ (_ :: _) _ _; first | refine wpList_load_pat (by kernel_rfl) (.tmp 88) rfl k7 rfl ({ p with a := a' } : Pth) (Lib.hid HK7.out) ?_ | refine wpList_load_pat (by kernel_rfl) (.tmp 90) rfl (s + 1) rfl p (Lib.hid HPJ.out) ?_)
    refine (HSA.out _ a' p.a HAJ.out HPK.out HC.out).mono ?_
    rintro e WK ⟨rfl, hb⟩
    have HBK : Hid (Below w.heap.size w WK) := HBJ.out.trans (hb.mono HBJ.out.size)
    clear hb
    go_wp2_with fail
    refine (HWK.out _).mono ?_
    rintro e WL ⟨rfl, hb⟩
    have HBL : Hid (Below w.heap.size w WL) := HBK.out.trans (hb.mono HBK.out.size)
    clear hb
    go_wp2_with fail
    go_ret
    exact ⟨rfl, HBL.out⟩
  · try simp only at hz
    obtain ⟨rfl, rfl⟩ := Prod.mk.inj hT
    clear hT
    clear HARM
    go_upto_region 8 with fail
    refine rb_name fun VC hVC => ?_
    have HK16 : Hid (CellsAt VC wB.heap.size noAtr.ar 33) := by rw [hVC]; exact HN16.out _
    have HBC : Hid (Below wB.heap.size wB VC) := by rw [hVC]; exact below1 _ _
    obtain ⟨k16, hk⟩ : ∃ k, k = wB.heap.size := ⟨_, rfl⟩
    rw [← hk] at HK16 ⊢
    have HKB : Hid (w9.heap.size ≤ k13) := HKL.out
    clear hVC HN16
    clear hk
    have HMT : Hid (MT w VC s k7 k8 k9 k11 k13 k16 g p ({ p with a := a' } : Pth) t x1 x2 x3 noAtr) := ⟨HMB.out.below HBC.out, HK16.out, (noAtr_own _ 0).ok⟩
    have HW1D : Hid (Below w1.heap.size w1 VC) := HW1B.out.trans (HBC.out.mono HW1B.out.size)
    have HW5D : Hid (Below w5.heap.size w5 VC) := HW5B.out.trans (HBC.out.mono HW5B.out.size)
    have HW9D : Hid (Below w9.heap.size w9 VC) := HW9B.out.trans (HBC.out.mono HW9B.out.size)
    have HED : Hid (x3.c = noAtr.c) := HE3.out
    clear HK16 HBC HMB HW1B HW5B HW9B
    go_upto_region 10 with fail
    refine wp_region_held_drew (S := fun w' => MT w w' s k7 k8 k9 k11 k13 k16 g p ({ p with a := a' } : Pth) t x1 x2 x3 noAtr ∧ Below w1.heap.size w1 w' ∧ Below w5.heap.size w5 w' ∧ Below w9.heap.size w9 w') (by kernel_rfl) (⟨HMT.out.below (below_drewN (Below.refl _ _) 1), below_drewN HW1D.out 1, below_drewN HW5D.out 1, below_drewN HW9D.out 1⟩) (fun hHeld => ?_)
    refine wpAnyH_take (i := 0) (oi := { dst := some 53, op := Op.load 33 (Operand.tmp 9), type := 33, pos := "law.go:66", after := #[], guard := none }) (v := .agg x1.ar) rfl (by kernel_rfl) (by kernel_rfl) (by kernel_rfl) (fun _ _ _ h => h) (yields_row (by rfl) _ _ rfl k9 0 (by rfl) x1.ar atS 16 atZ rfl (fun w h => whole_range h.1.m.q9)) hHeld ?_
    try simp only [Act.put, List.setIfInBounds_toArray, List.set_cons_zero, List.set_cons_succ]
    refine wpAnyH_take (i := 1) (oi := { dst := some 54, op := Op.load 33 (Operand.tmp 11), type := 33, pos := "law.go:66", after := #[], guard := none }) (v := .agg x2.ar) rfl (by kernel_rfl) (by kernel_rfl) (by kernel_rfl) (fun _ _ _ h => h) (yields_row (by rfl) _ _ rfl k11 0 (by rfl) x2.ar atS 16 atZ rfl (fun w h => whole_range h.1.m.q11)) hHeld ?_
    try simp only [Act.put, List.setIfInBounds_toArray, List.set_cons_zero, List.set_cons_succ]
    refine wpAnyH_ready (rs := [2]) (by kernel_rfl) (by simp) ?_
    refine AllReadyH.cons (o := { dst := some 55, op := Op.call { callee := Callee.value (Operand.func 13), args := #[Operand.tmp 53, Operand.tmp 54], argTypes := #[33, 33] }, type := 4, pos := "law.go:66", after := #[{ on := 0, ground := Ground.data }, { on := 1, ground := Ground.data }], guard := none }) rfl (fun K hK => ?_) AllReadyH.nil
    go_simp
    refine (HSA.out _ x1 x2 hHeld.1.m.ao hHeld.1.m.co (HE1.out.trans HE2.out.symm)).mono ?_
    rintro e wD ⟨rfl, hb1⟩
    have HS1 := Lib.hid hHeld
    refine hK.out _ _ (⟨HS1.out.1.below hb1, HS1.out.2.1.trans (hb1.mono HS1.out.2.1.size), HS1.out.2.2.1.trans (hb1.mono HS1.out.2.2.1.size), HS1.out.2.2.2.trans (hb1.mono HS1.out.2.2.2.size)⟩) (fun hHeld => ?_)
    clear hK K
    try simp only [Act.put, List.setIfInBounds_toArray, List.set_cons_zero, List.set_cons_succ]
    refine wpAnyH_take (i := 3) (oi := { dst := some 56, op := Op.unOp UnOp.not 4 (Operand.tmp 55), type := 4, pos := "law.go:66", after := #[{ on := 2, ground := Ground.data }], guard := none }) (v := ?_) rfl (by kernel_rfl) (by kernel_rfl) (by kernel_rfl) (fun _ _ _ h => h) (Or.inl ⟨by rfl, ?_⟩) hHeld ?_
    rotate_left
    · intro w hSw
      clear hSw
      go_simp
      try with_reducible rfl
    try simp only [Act.put, List.setIfInBounds_toArray, List.set_cons_zero, List.set_cons_succ]
    refine wpAnyH_take (i := 4) (oi := { dst := some 57, op := Op.move (Operand.tmp 56), type := 4, pos := "law.go:66", after := #[{ on := 3, ground := Ground.data }, { on := 2, ground := Ground.chain }], guard := none }) (v := ?_) rfl (by kernel_rfl) (by kernel_rfl) (by kernel_rfl) (fun _ _ _ h => h) (Or.inl ⟨by rfl, ?_⟩) hHeld ?_
    rotate_left
    · intro w hSw
      clear hSw
      go_simp
      try with_reducible rfl
    try simp only [Act.put, List.setIfInBounds_toArray, List.set_cons_zero, List.set_cons_succ]
    refine wpAnyH_take (i := 5) (oi := { dst := some 58, op := Op.move (Operand.tmp 10), type := 54, pos := "law.go:66", after := #[{ on := 4, ground := Ground.guard }], guard := some (4, false) }) (v := ?_) rfl (by kernel_rfl) (by kernel_rfl) (by kernel_rfl) (fun _ _ _ h => h) (Or.inl ⟨by rfl, ?_⟩) hHeld ?_
    rotate_left
    · intro w hSw
      clear hSw
      go_simp
      try with_reducible rfl
    try simp only [Act.put, List.setIfInBounds_toArray, List.set_cons_zero, List.set_cons_succ]
    refine wpAnyH_take (i := 6) (oi := { dst := some 59, op := Op.move (Operand.tmp 12), type := 54, pos := "law.go:66", after := #[{ on := 4, ground := Ground.guard }], guard := some (4, false) }) (v := ?_) rfl (by kernel_rfl) (by kernel_rfl) (by kernel_rfl) (fun _ _ _ h => h) (Or.inl ⟨by rfl, ?_⟩) hHeld ?_
    rotate_left
    · intro w hSw
      clear hSw
      go_simp
      try with_reducible rfl
    try simp only [Act.put, List.setIfInBounds_toArray, List.set_cons_zero, List.set_cons_succ]
    refine wpAnyH_take (i := 7) (oi := { dst := some 60, op := Op.binOp BinOp.neq 54 (Operand.tmp 58) (Operand.tmp 59) 54, type := 4, pos := "law.go:66", after := #[{ on := 5, ground := Ground.data }, { on := 6, ground := Ground.data }, { on := 4, ground := Ground.guard }], guard := some (4, false) }) (v := ?_) rfl (by kernel_rfl) (by kernel_rfl) (by kernel_rfl) (fun _ _ _ h => h) (Or.inl ⟨by rfl, ?_⟩) hHeld ?_
    rotate_left
    · intro w hSw
      clear hSw
      go_simp
      try with_reducible rfl
    try simp only [Act.put, List.setIfInBounds_toArray, List.set_cons_zero, List.set_cons_succ]
    refine wpAnyH_take (i := 8) (oi := { dst := some 61, op := Op.pick (Operand.tmp 57) (Operand.const (Value.bool true)) (Operand.tmp 60), type := 4, pos := "law.go:66", after := #[{ on := 4, ground := Ground.data }, { on := 7, ground := Ground.data }], guard := none }) (v := ?_) rfl (by kernel_rfl) (by kernel_rfl) (by kernel_rfl) (fun _ _ _ h => h) (Or.inl ⟨by rfl, ?_⟩) hHeld ?_
    rotate_left
    · intro w hSw
      clear hSw
      go_simp
      try with_reducible rfl
    try simp only [Act.put, List.setIfInBounds_toArray, List.set_cons_zero, List.set_cons_succ]
    refine wpAnyH_take (i := 9) (oi := { dst := some 62, op := Op.move (Operand.tmp 61), type := 4, pos := "law.go:66", after := #[{ on := 8, ground := Ground.data }, { on := 4, ground := Ground.chain }], guard := none }) (v := ?_) rfl (by kernel_rfl) (by kernel_rfl) (by kernel_rfl) (fun _ _ _ h => h) (Or.inl ⟨by rfl, ?_⟩) hHeld ?_
    rotate_left
    · intro w hSw
      clear hSw
      go_simp
      try with_reducible rfl
    try simp only [Act.put, List.setIfInBounds_toArray, List.set_cons_zero, List.set_cons_succ]
    refine wpAnyH_take (i := 10) (oi := { dst := some 63, op := Op.load 33 (Operand.tmp 13), type := 33, pos := "law.go:66", after := #[{ on := 9, ground := Ground.guard }], guard := some (9, false) }) (v := .agg x3.ar) rfl (by kernel_rfl) (by kernel_rfl) (by kernel_rfl) (fun _ _ _ h => h) (yields_row (by rfl) _ _ rfl k13 0 (by rfl) x3.ar atS 16 atZ rfl (fun w h => whole_range h.1.m.q13)) hHeld ?_
    try simp only [Act.put, List.setIfInBounds_toArray, List.set_cons_zero, List.set_cons_succ]
    refine wpAnyH_take (i := 11) (oi := { dst := some 64, op := Op.load 33 (Operand.tmp 16), type := 33, pos := "law.go:66", after := #[{ on := 9, ground := Ground.guard }], guard := some (9, false) }) (v := .agg noAtr.ar) rfl (by kernel_rfl) (by kernel_rfl) (by kernel_rfl) (fun _ _ _ h => h) (yields_row (by rfl) _ _ rfl k16 0 (by rfl) noAtr.ar atS 16 atZ rfl (fun w h => whole_range h.1.q16)) hHeld ?_
    try simp only [Act.put, List.setIfInBounds_toArray, List.set_cons_zero, List.set_cons_succ]
    refine wpAnyH_ready (rs := [12]) (by kernel_rfl) (by simp) ?_
    refine AllReadyH.cons (o := { dst := some 65, op := Op.call { callee := Callee.value (Operand.func 13), args := #[Operand.tmp 63, Operand.tmp 64], argTypes := #[33, 33] }, type := 4, pos := "law.go:66", after := #[{ on := 10, ground := Ground.data }, { on := 11, ground := Ground.data }, { on := 9, ground := Ground.chain }, { on := 9, ground := Ground.guard }], guard := some (9, false) }) rfl (fun K hK => ?_) AllReadyH.nil
    go_simp
    refine (HSA.out _ x3 noAtr hHeld.1.m.bo hHeld.1.d HED.out).mono ?_
    rintro e wE ⟨rfl, hb2⟩
    have HS2 := Lib.hid hHeld
    refine hK.out _ _ (⟨HS2.out.1.below hb2, HS2.out.2.1.trans (hb2.mono HS2.out.2.1.size), HS2.out.2.2.1.trans (hb2.mono HS2.out.2.2.1.size), HS2.out.2.2.2.trans (hb2.mono HS2.out.2.2.2.size)⟩) (fun hHeld => ?_)
    clear hK K
    try simp only [Act.put, List.setIfInBounds_toArray, List.set_cons_zero, List.set_cons_succ]
    refine wpAnyH_take (i := 13) (oi := { dst := some 66, op := Op.unOp UnOp.not 4 (Operand.tmp 65), type := 4, pos := "law.go:66", after := #[{ on := 12, ground := Ground.data }, { on := 9, ground := Ground.guard }], guard := some (9, false) }) (v := ?_) rfl (by kernel_rfl) (by kernel_rfl) (by kernel_rfl) (fun _ _ _ h => h) (Or.inl ⟨by rfl, ?_⟩) hHeld ?_
    rotate_left
    · intro w hSw
      clear hSw
      go_simp
      try with_reducible rfl
    try simp only [Act.put, List.setIfInBounds_toArray, List.set_cons_zero, List.set_cons_succ]
    refine wpAnyH_take (i := 14) (oi := { dst := some 67, op := Op.pick (Operand.tmp 62) (Operand.const (Value.bool true)) (Operand.tmp 66), type := 4, pos := "law.go:66", after := #[{ on := 9, ground := Ground.data }, { on := 13, ground := Ground.data }], guard := none }) (v := ?_) rfl (by kernel_rfl) (by kernel_rfl) (by kernel_rfl) (fun _ _ _ h => h) (Or.inl ⟨by rfl, ?_⟩) hHeld ?_
    rotate_left
    · intro w hSw
      clear hSw
      go_simp
      try with_reducible rfl
    try simp only [Act.put, List.setIfInBounds_toArray, List.set_cons_zero, List.set_cons_succ]
    refine wpAnyH_take (i := 15) (oi := { dst := some 68, op := Op.move (Operand.tmp 67), type := 4, pos := "law.go:66", after := #[{ on := 14, ground := Ground.data }, { on := 12, ground := Ground.chain }], guard := none }) (v := ?_) rfl (by kernel_rfl) (by kernel_rfl) (by kernel_rfl) (fun _ _ _ h => h) (Or.inl ⟨by rfl, ?_⟩) hHeld ?_
    rotate_left
    · intro w hSw
      clear hSw
      go_simp
      try with_reducible rfl
    try simp only [Act.put, List.setIfInBounds_toArray, List.set_cons_zero, List.set_cons_succ]
    refine wpAnyH_take (i := 16) (oi := { dst := some 69, op := Op.move (Operand.tmp 14), type := 4, pos := "law.go:66", after := #[{ on := 15, ground := Ground.guard }], guard := some (15, false) }) (v := ?_) rfl (by kernel_rfl) (by kernel_rfl) (by kernel_rfl) (fun _ _ _ h => h) (Or.inl ⟨by rfl, ?_⟩) hHeld ?_
    rotate_left
    · intro w hSw
      clear hSw
      go_simp
      try with_reducible rfl
    try simp only [Act.put, List.setIfInBounds_toArray, List.set_cons_zero, List.set_cons_succ]
    refine wpAnyH_take (i := 17) (oi := { dst := some 70, op := Op.move (Operand.tmp 15), type := 4, pos := "law.go:66", after := #[{ on := 15, ground := Ground.guard }], guard := some (15, false) }) (v := ?_) rfl (by kernel_rfl) (by kernel_rfl) (by kernel_rfl) (fun _ _ _ h => h) (Or.inl ⟨by rfl, ?_⟩) hHeld ?_
    rotate_left
    · intro w hSw
      clear hSw
      go_simp
      try with_reducible rfl
    try simp only [Act.put, List.setIfInBounds_toArray, List.set_cons_zero, List.set_cons_succ]
    refine wpAnyH_take (i := 18) (oi := { dst := some 71, op := Op.binOp BinOp.neq 4 (Operand.tmp 69) (Operand.tmp 70) 4, type := 4, pos := "law.go:66", after := #[{ on := 16, ground := Ground.data }, { on := 17, ground := Ground.data }, { on := 15, ground := Ground.guard }], guard := some (15, false) }) (v := ?_) rfl (by kernel_rfl) (by kernel_rfl) (by kernel_rfl) (fun _ _ _ h => h) (Or.inl ⟨by rfl, ?_⟩) hHeld ?_
    rotate_left
    · intro w hSw
      clear hSw
      go_simp
      try with_reducible rfl
    try simp only [Act.put, List.setIfInBounds_toArray, List.set_cons_zero, List.set_cons_succ]
    refine wpAnyH_take (i := 19) (oi := { dst := some 72, op := Op.pick (Operand.tmp 68) (Operand.const (Value.bool true)) (Operand.tmp 71), type := 4, pos := "law.go:66", after := #[{ on := 15, ground := Ground.data }, { on := 18, ground := Ground.data }], guard := none }) (v := ?_) rfl (by kernel_rfl) (by kernel_rfl) (by kernel_rfl) (fun _ _ _ h => h) (Or.inl ⟨by rfl, ?_⟩) hHeld ?_
    rotate_left
    · intro w hSw
      clear hSw
      go_simp
      try with_reducible rfl
    try simp only [Act.put, List.setIfInBounds_toArray, List.set_cons_zero, List.set_cons_succ]
    refine wpAnyH_take (i := 20) (oi := { dst := some 73, op := Op.move (Operand.tmp 72), type := 4, pos := "law.go:66", after := #[{ on := 19, ground := Ground.data }, { on := 15, ground := Ground.chain }], guard := none }) (v := ?_) rfl (by kernel_rfl) (by kernel_rfl) (by kernel_rfl) (fun _ _ _ h => h) (Or.inl ⟨by rfl, ?_⟩) hHeld ?_
    rotate_left
    · intro w hSw
      clear hSw
      go_simp
      try with_reducible rfl
    try simp only [Act.put, List.setIfInBounds_toArray, List.set_cons_zero, List.set_cons_succ]
    refine wpAnyH_take (i := 21) (oi := { dst := some 74, op := Op.load 49 (Operand.tmp 8), type := 49, pos := "law.go:66", after := #[{ on := 20, ground := Ground.guard }], guard := some (20, false) }) (v := .agg g.ar) rfl (by kernel_rfl) (by kernel_rfl) (by kernel_rfl) (fun _ _ _ h => h) (yields_row (by rfl) _ _ rfl k8 0 (by rfl) g.ar confS 13 confZ rfl (fun w h => whole_range h.1.m.q8)) hHeld ?_
    try simp only [Act.put, List.setIfInBounds_toArray, List.set_cons_zero, List.set_cons_succ]
    refine wpAnyH_take (i := 22) (oi := { dst := some 75, op := Op.load 37 (Operand.tmp 7), type := 37, pos := "law.go:66", after := #[{ on := 20, ground := Ground.guard }], guard := some (20, false) }) (v := .agg ({ p with a := a' } : Pth).ar) rfl (by kernel_rfl) (by kernel_rfl) (by kernel_rfl) (fun _ _ _ h => h) (yields_row (by rfl) _ _ rfl k7 0 (by rfl) ({ p with a := a' } : Pth).ar pathS 29 pathZ rfl (fun w h => whole_range h.1.m.q7)) hHeld ?_
    try simp only [Act.put, List.setIfInBounds_toArray, List.set_cons_zero, List.set_cons_succ]
    refine wpAnyH_take (i := 23) (oi := { dst := some 76, op := Op.load 40 (Operand.tmp 5), type := 40, pos := "law.go:66", after := #[{ on := 20, ground := Ground.guard }], guard := some (20, false) }) (v := .agg t.ar) rfl (by kernel_rfl) (by kernel_rfl) (by kernel_rfl) (fun _ _ _ h => h) (yields_row (by rfl) _ _ rfl (s + 1 + 1) 0 (by rfl) t.ar peerS 23 peerZ rfl (fun w h => whole_range h.1.m.bx.t)) hHeld ?_
    try simp only [Act.put, List.setIfInBounds_toArray, List.set_cons_zero, List.set_cons_succ]
    refine wpAnyH_take (i := 25) (oi := { dst := some 78, op := Op.load 49 (Operand.tmp 8), type := 49, pos := "law.go:66", after := #[{ on := 20, ground := Ground.guard }], guard := some (20, false) }) (v := .agg g.ar) rfl (by kernel_rfl) (by kernel_rfl) (by kernel_rfl) (fun _ _ _ h => h) (yields_row (by rfl) _ _ rfl k8 0 (by rfl) g.ar confS 13 confZ rfl (fun w h => whole_range h.1.m.q8)) hHeld ?_
    try simp only [Act.put, List.setIfInBounds_toArray, List.set_cons_zero, List.set_cons_succ]
    refine wpAnyH_take (i := 26) (oi := { dst := some 79, op := Op.load 37 (Operand.tmp 4), type := 37, pos := "law.go:66", after := #[{ on := 20, ground := Ground.guard }], guard := some (20, false) }) (v := .agg p.ar) rfl (by kernel_rfl) (by kernel_rfl) (by kernel_rfl) (fun _ _ _ h => h) (yields_row (by rfl) _ _ rfl (s + 1) 0 (by rfl) p.ar pathS 29 pathZ rfl (fun w h => whole_range h.1.m.bx.p)) hHeld ?_
    try simp only [Act.put, List.setIfInBounds_toArray, List.set_cons_zero, List.set_cons_succ]
    refine wpAnyH_take (i := 27) (oi := { dst := some 80, op := Op.load 40 (Operand.tmp 5), type := 40, pos := "law.go:66", after := #[{ on := 20, ground := Ground.guard }], guard := some (20, false) }) (v := .agg t.ar) rfl (by kernel_rfl) (by kernel_rfl) (by kernel_rfl) (fun _ _ _ h => h) (yields_row (by rfl) _ _ rfl (s + 1 + 1) 0 (by rfl) t.ar peerS 23 peerZ rfl (fun w h => whole_range h.1.m.bx.t)) hHeld ?_
    try simp only [Act.put, List.setIfInBounds_toArray, List.set_cons_zero, List.set_cons_succ]
    refine wpAnyH_ready (rs := [24]) (by kernel_rfl) (by simp) ?_
    refine AllReadyH.cons (o := { dst := some 77, op := Op.call { callee := Callee.value (Operand.func 18), args := #[Operand.tmp 74, Operand.tmp 75, Operand.tmp 76], argTypes := #[49, 37, 40] }, type := 9, pos := "law.go:66", after := #[{ on := 21, ground := Ground.data }, { on := 22, ground := Ground.data }, { on := 23, ground := Ground.data }, { on := 20, ground := Ground.chain }, { on := 20, ground := Ground.guard }], guard := some (20, false) }) rfl (fun K hK => ?_) AllReadyH.nil
    go_simp
    refine (HNE.out _ a' HC.out).mono ?_
    rintro e wF ⟨rfl, hb3⟩
    have HS3 := Lib.hid hHeld
    refine hK.out _ _ (⟨HS3.out.1.below hb3, HS3.out.2.1.trans (hb3.mono HS3.out.2.1.size), HS3.out.2.2.1.trans (hb3.mono HS3.out.2.2.1.size), HS3.out.2.2.2.trans (hb3.mono HS3.out.2.2.2.size)⟩) (fun hHeld => ?_)
    clear hK K
    try simp only [Act.put, List.setIfInBounds_toArray, List.set_cons_zero, List.set_cons_succ]
    refine wpAnyH_ready (rs := [28]) (by kernel_rfl) (by simp) ?_
    refine AllReadyH.cons (o := { dst := some 81, op := Op.call { callee := Callee.value (Operand.func 19), args := #[Operand.tmp 78, Operand.tmp 79, Operand.tmp 80], argTypes := #[49, 37, 40] }, type := 9, pos := "law.go:66", after := #[{ on := 25, ground := Ground.data }, { on := 26, ground := Ground.data }, { on := 27, ground := Ground.data }, { on := 24, ground := Ground.chain }, { on := 20, ground := Ground.guard }], guard := some (20, false) }) rfl (fun K hK => ?_) AllReadyH.nil
    go_simp
    refine (HRN.out _).mono ?_
    rintro e wG ⟨rfl, hb4⟩
    have HS4 := Lib.hid hHeld
    refine hK.out _ _ (⟨HS4.out.1.below hb4, HS4.out.2.1.trans (hb4.mono HS4.out.2.1.size), HS4.out.2.2.1.trans (hb4.mono HS4.out.2.2.1.size), HS4.out.2.2.2.trans (hb4.mono HS4.out.2.2.2.size)⟩) (fun hHeld => ?_)
    clear hK K
    try simp only [Act.put, List.setIfInBounds_toArray, List.set_cons_zero, List.set_cons_succ]
    refine wpAnyH_take (i := 29) (oi := { dst := some 82, op := Op.binOp BinOp.neq 9 (Operand.tmp 77) (Operand.tmp 81) 9, type := 4, pos := "law.go:66", after := #[{ on := 24, ground := Ground.data }, { on := 28, ground := Ground.data }, { on := 20, ground := Ground.guard }], guard := some (20, false) }) (v := ?_) rfl (by kernel_rfl) (by kernel_rfl) (by kernel_rfl) (fun _ _ _ h => h) (Or.inl ⟨by rfl, ?_⟩) hHeld ?_
    rotate_left
    · intro w hSw
      clear hSw
      go_simp
      try with_reducible rfl
    try simp only [Act.put, List.setIfInBounds_toArray, List.set_cons_zero, List.set_cons_succ]
    refine wpAnyH_take (i := 30) (oi := { dst := some 83, op := Op.pick (Operand.tmp 73) (Operand.const (Value.bool true)) (Operand.tmp 82), type := 4, pos := "law.go:66", after := #[{ on := 20, ground := Ground.data }, { on := 29, ground := Ground.data }], guard := none }) (v := ?_) rfl (by kernel_rfl) (by kernel_rfl) (by kernel_rfl) (fun _ _ _ h => h) (Or.inl ⟨by rfl, ?_⟩) hHeld ?_
    rotate_left
    · intro w hSw
      clear hSw
      go_simp
      try with_reducible rfl
    try simp only [Act.put, List.setIfInBounds_toArray, List.set_cons_zero, List.set_cons_succ]
    refine wpAnyH_done (by kernel_rfl) ?_ _
    obtain ⟨hm1, hw1, hw5, hw9⟩ := hHeld
    clear HMT HW1D HW5D HW9D
    have HM := Lib.hid hm1
    have HW1 := Lib.hid hw1
    have HW5 := Lib.hid hw5
    have HW9 := Lib.hid hw9
    clear hm1 hw1 hw5 hw9
    go_wp2_with (with_reducible show wpList _ _ _ (_ :: _) _ _; refine wpList_load_attrs (by kernel_rfl) (.tmp 9) rfl k9 rfl x1 HM.out.m.q9 ?_)
    refine (HSP.out x1 b1 w5 _ HO1.out (fun i _ h => HW5.out.block i h) HW5.out.size).mono ?_
    rintro e WI ⟨rfl, hgx⟩
    have HGX := Lib.hid hgx
    clear hgx
    have HQI : Hid (CellsAt WI k13 x3.ar 33) := HM.out.m.q13.grownX HGX.out (fun h => by have := HKB.out; have := HL13.out; have := HLE3.out; omega)
    go_wp2_with (with_reducible show wpList _ _ _ (_ :: _) _ _; refine wpList_load_attrs (by kernel_rfl) (.tmp 13) rfl k13 rfl x3 HQI.out ?_)
    refine (HSP.out x3 b3 w9 _ HO3.out (fun i h1 h2 => (HGX.out.block i (Nat.lt_of_lt_of_le h2 HW9.out.size) (fun h => by have := HL13.out; omega)).trans (HW9.out.block i h2)) (Nat.le_trans HW9.out.size HGX.out.size)).mono ?_
    rintro e WJ ⟨rfl, hgx⟩
    have HGY := Lib.hid hgx
    clear hgx HQI
    have HK7 : Hid (CellsAt WJ k7 ({ p with a := a' } : Pth).ar 37) := (HM.out.m.q7.grownX HGX.out (fun h => by have := HL71.out; omega)).grownX HGY.out (fun h => by have := HL71.out; have := HL13.out; have := HLE1.out; omega)
    have HPJ : Hid (CellsAt WJ (s + 1) p.ar 37) := (HM.out.m.bx.p.grownX HGX.out (fun h => by have := HLS1.out; omega)).grownX HGY.out (fun h => by have := HLS1.out; have := HL13.out; have := HLE1.out; omega)
    have HBI : Hid (Below w.heap.size w WI) := HGX.out.below HM.out.m.bx.b (fun i h => by have := HLS1.out; have := HS.out; omega) HM.out.m.bx.b.size
    have HBJ : Hid (Below w.heap.size w WJ) := HGY.out.below HBI.out (fun i h => by have := HLS1.out; have := HS.out; have := HL13.out; have := HLE1.out; omega) HBI.out.size
    have HAJ : Hid (AtrOk WJ a') := (HO.out.keep (fun i h1 h2 => by
      have e1 := HW1.out.block i h2
      have l1 := HWB1.out
      have l2 := HW1.out.size
      have l3 := HL13.out
      have l4 := HLE1.out
      have l5 := HGX.out.size
      exact ((HGY.out.block i (by omega) (fun h => by omega)).trans (HGX.out.block i (by omega) (fun h => by omega))).trans e1)).ok
    have HPK : Hid (AtrOk WJ p.a) := HP.out.a.below HBJ.out (Nat.le_refl _)
    go_wp2_with (with_reducible show wpList _ _ _ (_ :: _) _ _; first | refine wpList_load_pat (by kernel_rfl) (.tmp 88) rfl k7 rfl ({ p with a := a' } : Pth) (Lib.hid HK7.out) ?_ | refine wpList_load_pat (by kernel_rfl) (.tmp 90) rfl (s + 1) rfl p (Lib.hid HPJ.out) ?_)
    refine (HSA.out _ a' p.a HAJ.out HPK.out HC.out).mono ?_
    rintro e WK ⟨rfl, hb⟩
    have HBK : Hid (Below w.heap.size w WK) := HBJ.out.trans (hb.mono HBJ.out.size)
    clear hb
    go_wp2_with fail
    refine (HWK.out _).mono ?_
    rintro e WL ⟨rfl, hb⟩
    have HBL : Hid (Below w.heap.size w WL) := HBK.out.trans (hb.mono HBK.out.size)
    clear hb
    go_wp2_with fail
    go_ret
    exact ⟨rfl, HBL.out⟩
end Go.Proofs.YtojiieghjhjoaaaGreat
