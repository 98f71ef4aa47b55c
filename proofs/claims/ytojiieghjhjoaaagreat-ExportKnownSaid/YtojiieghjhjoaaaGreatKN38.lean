/-
  Several texts in one.
-/
import Derived.Test.YtojiieghjhjoaaaGreatKN37
set_option linter.unusedVariables false
set_option linter.unusedSimpArgs false
namespace Go.Proofs.YtojiieghjhjoaaaGreat
open Go.RowKit Go.MapKept Go.Shelf
open Go.Lib hiding intOf

/-- what Told answers -/
def ToldP (w0 : World) (r : AtC × Bool) (e : Ending) (w' : World) : Prop := ∃ a' : Atr, e = .returned (.tuple #[.agg a'.ar, .bool r.2]) ∧ AtO w' w0.heap.size a' ∧ a'.c = r.1 ∧ Below w0.heap.size w0 w'
set_option maxRecDepth 100000 in
set_option maxHeartbeats 16000000 in
theorem told_any (g : Cfg) (p : Pth) (t : Pr) (w : World) (hg : g.Ok) (hp : PthOk w p) (ht : PrOk w t) : Calls Tryz.prog 17 #[.agg g.ar, .agg p.ar, .agg t.ar] w (ToldP w (toldF g p t)) := by
  obtain ⟨POST, hP⟩ : ∃ P, P = ToldP w (toldF g p t) := ⟨_, rfl⟩
  rw [← hP]
  have HRET : Hid (∀ (a' : Atr) (E : Bool) (W : World), toldF g p t = (a'.c, E) → AtO W w.heap.size a' → Below w.heap.size w W → POST (.returned (.tuple #[.agg a'.ar, .bool E])) W) := fun a' E W e h1 h2 => by
    rw [hP, e]
    exact ⟨a', rfl, h1, rfl, h2⟩
  obtain ⟨x1, hx1⟩ : ∃ x, x = mayF g p t := ⟨_, rfl⟩
  have HX1 := Lib.hid hx1
  have H1 : Hid (∀ W, Below w.heap.size w W → Calls Tryz.prog 10 #[.agg g.ar, .agg p.ar, .agg t.ar] W fun e w' => e = .returned (.bool x1) ∧ Below W.heap.size W w') := fun W hW => by rw [hx1]; exact may_any g p t W (hp.below hW (Nat.le_refl _)) (ht.below hW (Nat.le_refl _))
  obtain ⟨AF, hAF⟩ : ∃ r, r = attrsF g p t := ⟨_, rfl⟩
  have HAF := Lib.hid hAF
  have H2 : Hid (∀ W, Below w.heap.size w W → Calls Tryz.prog 15 #[.agg g.ar, .agg p.ar, .agg t.ar] W (AttrsP W AF)) := fun W hW => by rw [hAF]; exact attrs_any g p t W hg (hp.below hW (Nat.le_refl _)) (ht.below hW (Nat.le_refl _))
  clear hP hx1 hg hp ht hAF
  go_enter Tryz.func17, Tryz.ntmps17
  go_upto_region 1 with fail
  refine rb_name fun V0 hV0 => ?_
  have hbx := B4.start w g p t
  obtain ⟨s, hs⟩ : ∃ s, s = w.heap.size := ⟨_, rfl⟩
  have HB0 : Hid (B4 w V0 s g p t) := by rw [hV0, hs]; exact hbx
  have HS : Hid (s = w.heap.size) := hs
  rw [← hs]
  clear hV0 hbx hs
  go_wp2_with (with_reducible show wpList _ _ _ (_ :: _) _ _; first | refine wpList_load_conf (by kernel_rfl) (.tmp 3) rfl s rfl g (Lib.hid HB0.out.bx.c) ?_ | refine wpList_load_path (by kernel_rfl) (.tmp 4) rfl (s + 1) rfl p (Lib.hid HB0.out.bx.p) ?_ | refine wpList_load_peer (by kernel_rfl) (.tmp 5) rfl (s + 1 + 1) rfl t (Lib.hid HB0.out.bx.t) ?_)
  refine (H1.out _ HB0.out.bx.b).mono ?_
  rintro e w1 ⟨rfl, hw1⟩
  have HB1 : Hid (B4 w w1 s g p t) := HB0.out.below hw1
  clear hw1 HB0
  cases x1 with
  | false =>
    have HE : Hid (toldF g p t = (noAtr.c, false)) := by show _ = _; unfold toldF; rw [if_pos HX1.out.symm]; rfl
    go_wp2_with (with_reducible show wpList _ _ _ (_ :: _) _ _; refine wpList_store_attrs rfl (.tmp 6) (.tmp 15) rfl (s + 1 + 1 + 1) rfl noAtr (by kernel_rfl) noAtr HB1.out.r ?_)
    try simp only [Exit.inBlock, Exit.then]
    have HG := Lib.hid (grown_setRow' w1 (s + 1 + 1 + 1) noAtr.ar)
    refine bodyPost_ret (results_at2 rfl _ _ (s + 1 + 1 + 1) noAtr (.bool false) rfl rfl (HB1.out.r.setRow' _)) rfl (HRET.out noAtr _ _ HE.out (noAtr_own _ _) ?_)
    exact HB1.out.bx.b.grown HG.out HB1.out.bx.b.size (fun k hk => by injection hk with hk; have := HS.out; omega)
  | true =>
    go_wp2_with (with_reducible show wpList _ _ _ (_ :: _) _ _; first | refine wpList_load_conf (by kernel_rfl) (.tmp 3) rfl s rfl g (Lib.hid HB1.out.bx.c) ?_ | refine wpList_load_path (by kernel_rfl) (.tmp 4) rfl (s + 1) rfl p (Lib.hid HB1.out.bx.p) ?_ | refine wpList_load_peer (by kernel_rfl) (.tmp 5) rfl (s + 1 + 1) rfl t (Lib.hid HB1.out.bx.t) ?_)
    refine (H2.out _ HB1.out.bx.b).mono ?_
    rintro e w2 ⟨a2, rfl, ho2, hm2, hb2⟩
    have HB2 : Hid (B4 w w2 s g p t) := HB1.out.below hb2
    have HO2 : Hid (AtO w2 w.heap.size a2) := ho2.lower' HB1.out.bx.b.size
    have HE : Hid (toldF g p t = (a2.c, AF.2 == 0)) := by
      show _ = _
      unfold toldF
      rw [if_neg (by rw [← HX1.out]; simp), hm2, HAF.out]
    clear ho2 hm2 hb2 HB1
    obtain ⟨E, hE⟩ : ∃ E, E = AF.2 := ⟨_, rfl⟩
    rw [← hE] at HE ⊢
    clear hE
    go_upto_region 4 with (with_reducible show wpList _ _ _ (_ :: _) _ _; refine wpList_new_row rfl _ (.tmp 8) (.tmp 21) rfl rfl a2.ar rfl 16 atZ rfl rfl (attrs_ones a2) ?_)
    intro V3 HC3 HB3'
    obtain ⟨b, hb⟩ : ∃ b, b = w2.heap.size := ⟨_, rfl⟩
    rw [← hb] at HC3
    have HB3 : Hid (B4 w V3 s g p t) := HB2.out.below HB3'.out
    have HO3 : Hid (AtO V3 w.heap.size a2) := HO2.out.below HB3'.out
    rw [← hb]
    clear hb HB3' HB2 HO2
    go_wp2_with (with_reducible show wpList _ _ _ (_ :: _) _ _; first | refine wpList_load_attrs rfl (.tmp 8) rfl b rfl a2 HC3.out ?_ | refine wpList_store_attrs rfl (.tmp 6) (.tmp 23) rfl (s + 1 + 1 + 1) rfl a2 (by kernel_rfl) noAtr HB3.out.r ?_)
    try simp only [Exit.inBlock, Exit.then]
    have HG := Lib.hid (grown_setRow' V3 (s + 1 + 1 + 1) a2.ar)
    refine bodyPost_ret (results_at2 rfl _ _ (s + 1 + 1 + 1) a2 (.bool (E == 0)) rfl rfl (HB3.out.r.setRow' _)) rfl (HRET.out a2 _ _ HE.out (HO3.out.box HG.out HB3.out.r) ?_)
    exact HB3.out.bx.b.grown HG.out HB3.out.bx.b.size (fun k hk => by injection hk with hk; have := HS.out; omega)
end Go.Proofs.YtojiieghjhjoaaaGreat
