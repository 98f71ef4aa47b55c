/-
  Several texts in one.
-/
import Derived.Test.YtojiieghjhjoaaaGreatMY38
set_option linter.unusedVariables false
set_option linter.unusedSimpArgs false
namespace Go.Proofs.YtojiieghjhjoaaaGreat
open Go.RowKit Go.MapKept Go.Shelf
open Go.Lib hiding intOf

set_option maxRecDepth 100000 in
set_option maxHeartbeats 16000000 in
theorem rmay_any28 (g : Cfg) (p : Pth) (t : Pr) (w : World) (hp : PthOk w p) (ht : PrOk w t) : Calls Tryz.prog 12 #[.agg g.ar, .agg p.ar, .agg t.ar] w fun e w' => e = .returned (.bool (mayF g p t)) ∧ Below w.heap.size w w' := by
  obtain ⟨P, hP⟩ : ∃ P, P = mayF g p t := ⟨_, rfl⟩
  rw [← hP]
  unfold mayF at hP
  obtain ⟨x1, hx1⟩ : ∃ x, x = mayPathF p := ⟨_, rfl⟩
  obtain ⟨x2, hx2⟩ : ∃ x, x = t.fams.contains p.n.fam := ⟨_, rfl⟩
  obtain ⟨x3, hx3⟩ : ∃ x, x = (p.peer.toList == t.name.toList) := ⟨_, rfl⟩
  obtain ⟨x4, hx4⟩ : ∃ x, x = hasN p.a.comms 4294967042 := ⟨_, rfl⟩
  obtain ⟨x5, hx5⟩ : ∃ x, x = hasN p.a.comms 4294967041 := ⟨_, rfl⟩
  obtain ⟨x6, hx6⟩ : ∃ x, x = hasN p.a.comms 4294967043 := ⟨_, rfl⟩
  obtain ⟨K, hK⟩ : ∃ K, K = kindOf g t := ⟨_, rfl⟩
  rw [← hx1, ← hx2, ← hx3, ← hx4, ← hx5, ← hx6, ← hK] at hP
  have HP := Lib.hid hP
  have HX3 := Lib.hid hx3
  have H1 : Hid (∀ W, Below w.heap.size w W → Calls Tryz.prog 37 #[.agg p.ar] W fun e w' => e = .returned (.bool x1) ∧ Below W.heap.size W w') := fun W hW => by rw [hx1]; exact rmaypath_any p W (hp.below hW (Nat.le_refl _))
  have H2 : Hid (∀ W, Below w.heap.size w W → Calls Tryz.prog 38 #[.slice t.fA t.fams.length t.fC, .int .i64 p.n.fam] W fun e w' => e = .returned (.bool x2) ∧ w' = W) := fun W hW => by rw [hx2]; exact has28_any t.fA t.fC t.fams p.n.fam W (ht.below hW (Nat.le_refl _)).rd ht.len ht.cap
  have H4 : Hid (∀ W, Below w.heap.size w W → Calls Tryz.prog 39 #[.slice p.a.mA p.a.comms.length p.a.mC, .int .u32 4294967042] W fun e w' => e = .returned (.bool x4) ∧ w' = W) := fun W hW => by rw [hx4]; exact has05_any p.a.mA p.a.mC p.a.comms _ W (hp.a.below hW (Nat.le_refl _)).mrd hp.a.mlen hp.a.mcap
  have H5 : Hid (∀ W, Below w.heap.size w W → Calls Tryz.prog 39 #[.slice p.a.mA p.a.comms.length p.a.mC, .int .u32 4294967041] W fun e w' => e = .returned (.bool x5) ∧ w' = W) := fun W hW => by rw [hx5]; exact has05_any p.a.mA p.a.mC p.a.comms _ W (hp.a.below hW (Nat.le_refl _)).mrd hp.a.mlen hp.a.mcap
  have H6 : Hid (∀ W, Below w.heap.size w W → Calls Tryz.prog 39 #[.slice p.a.mA p.a.comms.length p.a.mC, .int .u32 4294967043] W fun e w' => e = .returned (.bool x6) ∧ w' = W) := fun W hW => by rw [hx6]; exact has05_any p.a.mA p.a.mC p.a.comms _ W (hp.a.below hW (Nat.le_refl _)).mrd hp.a.mlen hp.a.mcap
  have HK : Hid (∀ W, Calls Tryz.prog 36 #[.agg g.ar, .agg t.ar] W fun e w' => e = .returned (.int .i64 K) ∧ Below W.heap.size W w') := fun W => by rw [hK]; exact rinternal_any g t W
  clear hP hx1 hx2 hx3 hx4 hx5 hx6 hK hp ht
  go_enter Tryz.func12, Tryz.ntmps12
  go_upto_region 1 with fail
  refine rb_name fun V0 hV0 => ?_
  have hbx := Bx.start w g p t
  obtain ⟨s, hs⟩ : ∃ s, s = w.heap.size := ⟨_, rfl⟩
  have HB0 : Hid (Bx w V0 s g p t) := by rw [hV0, hs]; exact hbx
  rw [← hs]
  clear hV0 hbx hs
  go_wp2_with (with_reducible show wpList _ _ _ (_ :: _) _ _; first | refine wpList_load_conf (by kernel_rfl) (.tmp 3) rfl s rfl g (Lib.hid HB0.out.c) ?_ | refine wpList_load_peer (by kernel_rfl) (.tmp 5) rfl (s + 1 + 1) rfl t (Lib.hid HB0.out.t) ?_)
  refine (HK.out _).mono ?_
  rintro e w1 ⟨rfl, hw1⟩
  have HB1 : Hid (Bx w w1 s g p t) := HB0.out.below hw1
  clear hw1 HB0
  obtain ⟨c0, c4, c5, c8, c16, c22, c23, c25⟩ := pth_cells HB1.out.p
  obtain ⟨t0, t12, t22⟩ := pr_cells HB1.out.t
  go_wp2_with (with_reducible show wpList _ _ _ (_ :: _) _ _; refine wpList_load_path (by kernel_rfl) (.tmp 4) rfl (s + 1) rfl p (Lib.hid HB1.out.p) ?_)
  refine (H1.out _ HB1.out.b).mono ?_
  rintro e w2 ⟨rfl, hw2⟩
  have HB2 : Hid (Bx w w2 s g p t) := HB1.out.below hw2
  clear hw2 HB1 c0 c4 c5 c8 c16 c22 c23 c25 t0 t12 t22
  obtain ⟨c0, c4, c5, c8, c16, c22, c23, c25⟩ := pth_cells HB2.out.p
  obtain ⟨t0, t12, t22⟩ := pr_cells HB2.out.t
  cases x1 with
  | false =>
    obtain rfl : P = false := by rw [HP.out]; simp
    clear HP
    go_wp2_with fail
    go_ret
    exact ⟨rfl, HB2.out.b⟩
  | true =>
    go_wp2_with fail
    refine (H2.out _ HB2.out.b).mono ?_
    rintro e w3 ⟨rfl, hw3⟩
    subst w3
    cases x2 with
    | false =>
      obtain rfl : P = false := by rw [HP.out]; simp
      clear HP
      go_wp2_with fail
      go_ret
      exact ⟨rfl, HB2.out.b⟩
    | true =>
      cases x3 with
      | true =>
        have e3 : (p.peer.toList == t.name.toList) = true := HX3.out.symm
        obtain rfl : P = false := by rw [HP.out]; simp
        clear HP
        go_wp2_with fail
        go_ret
        exact ⟨rfl, HB2.out.b⟩
      | false =>
        have e3 : (p.peer.toList == t.name.toList) = false := HX3.out.symm
        go_wp2_with fail
        refine (H4.out _ HB2.out.b).mono ?_
        rintro e w3 ⟨rfl, hw3⟩
        subst w3
        cases x4 with
        | true =>
          obtain rfl : P = false := by rw [HP.out]; simp
          clear HP
          go_wp2_with fail
          go_ret
          exact ⟨rfl, HB2.out.b⟩
        | false =>
          clear e3 HX3
          go_wp2_with fail
          refine (H5.out _ HB2.out.b).mono ?_
          rintro e w3 ⟨rfl, hw3⟩
          subst w3
          cases e2 : K == 2 with
          | true =>
            cases x5 with
            | true =>
              obtain rfl : P = false := by rw [HP.out]; rw [e2]; simp
              clear HP
              go_wp2_with fail
              go_ret
              exact ⟨rfl, HB2.out.b⟩
            | false =>
              go_wp2_with fail
              refine (H6.out _ HB2.out.b).mono ?_
              rintro e w3 ⟨rfl, hw3⟩
              subst w3
              cases x6 with
              | false =>
                by_cases h4 : K = 4
                · have e4 : (K == 4) = true := beq_iff_eq.2 h4
                  have e4b : (K != 4) = false := by rw [bne, e4]; rfl
                  have HE : Hid (P = (p.kind != 4)) := by show _ = _; rw [HP.out, e2, e4]; simp [bne]
                  clear HP h4
                  go_wp2_with fail
                  go_ret
                  exact ⟨by rw [HE.out]; rfl, HB2.out.b⟩
                · have e4 : (K == 4) = false := beq_eq_false_iff_ne.2 h4
                  have e4b : (K != 4) = true := by rw [bne, e4]; rfl
                  obtain rfl : P = true := by rw [HP.out, e2, e4]; simp
                  clear HP h4
                  go_wp2_with fail
                  go_ret
                  exact ⟨rfl, HB2.out.b⟩
              | true =>
                obtain rfl : P = false := by rw [HP.out]; rw [e2]; simp
                clear HP
                go_wp2_with fail
                go_ret
                exact ⟨rfl, HB2.out.b⟩
          | false =>
            cases x5 with
            | true =>
              go_wp2_with fail
              refine (H6.out _ HB2.out.b).mono ?_
              rintro e w3 ⟨rfl, hw3⟩
              subst w3
              cases x6 with
              | false =>
                by_cases h4 : K = 4
                · have e4 : (K == 4) = true := beq_iff_eq.2 h4
                  have e4b : (K != 4) = false := by rw [bne, e4]; rfl
                  have HE : Hid (P = (p.kind != 4)) := by show _ = _; rw [HP.out, e2, e4]; simp [bne]
                  clear HP h4
                  go_wp2_with fail
                  go_ret
                  exact ⟨by rw [HE.out]; rfl, HB2.out.b⟩
                · have e4 : (K == 4) = false := beq_eq_false_iff_ne.2 h4
                  have e4b : (K != 4) = true := by rw [bne, e4]; rfl
                  obtain rfl : P = true := by rw [HP.out, e2, e4]; simp
                  clear HP h4
                  go_wp2_with fail
                  go_ret
                  exact ⟨rfl, HB2.out.b⟩
              | true =>
                by_cases h3 : K = 3
                · have e3 : (K == 3) = true := beq_iff_eq.2 h3
                  clear h3
                  obtain rfl : P = false := by rw [HP.out]; rw [e2, e3]; simp
                  clear HP
                  go_wp2_with fail
                  go_ret
                  exact ⟨rfl, HB2.out.b⟩
                · have e3 : (K == 3) = false := beq_eq_false_iff_ne.2 h3
                  clear h3
                  by_cases h4 : K = 4
                  · have e4 : (K == 4) = true := beq_iff_eq.2 h4
                    have e4b : (K != 4) = false := by rw [bne, e4]; rfl
                    have HE : Hid (P = (p.kind != 4)) := by show _ = _; rw [HP.out, e2, e3, e4]; simp [bne]
                    clear HP h4
                    go_wp2_with fail
                    go_ret
                    exact ⟨by rw [HE.out]; rfl, HB2.out.b⟩
                  · have e4 : (K == 4) = false := beq_eq_false_iff_ne.2 h4
                    have e4b : (K != 4) = true := by rw [bne, e4]; rfl
                    obtain rfl : P = true := by rw [HP.out, e2, e3, e4]; simp
                    clear HP h4
                    go_wp2_with fail
                    go_ret
                    exact ⟨rfl, HB2.out.b⟩
            | false =>
              go_wp2_with fail
              refine (H6.out _ HB2.out.b).mono ?_
              rintro e w3 ⟨rfl, hw3⟩
              subst w3
              cases x6 with
              | false =>
                by_cases h4 : K = 4
                · have e4 : (K == 4) = true := beq_iff_eq.2 h4
                  have e4b : (K != 4) = false := by rw [bne, e4]; rfl
                  have HE : Hid (P = (p.kind != 4)) := by show _ = _; rw [HP.out, e2, e4]; simp [bne]
                  clear HP h4
                  go_wp2_with fail
                  go_ret
                  exact ⟨by rw [HE.out]; rfl, HB2.out.b⟩
                · have e4 : (K == 4) = false := beq_eq_false_iff_ne.2 h4
                  have e4b : (K != 4) = true := by rw [bne, e4]; rfl
                  obtain rfl : P = true := by rw [HP.out, e2, e4]; simp
                  clear HP h4
                  go_wp2_with fail
                  go_ret
                  exact ⟨rfl, HB2.out.b⟩
              | true =>
                by_cases h3 : K = 3
                · have e3 : (K == 3) = true := beq_iff_eq.2 h3
                  clear h3
                  obtain rfl : P = false := by rw [HP.out]; rw [e2, e3]; simp
                  clear HP
                  go_wp2_with fail
                  go_ret
                  exact ⟨rfl, HB2.out.b⟩
                · have e3 : (K == 3) = false := beq_eq_false_iff_ne.2 h3
                  clear h3
                  by_cases h4 : K = 4
                  · have e4 : (K == 4) = true := beq_iff_eq.2 h4
                    have e4b : (K != 4) = false := by rw [bne, e4]; rfl
                    have HE : Hid (P = (p.kind != 4)) := by show _ = _; rw [HP.out, e2, e3, e4]; simp [bne]
                    clear HP h4
                    go_wp2_with fail
                    go_ret
                    exact ⟨by rw [HE.out]; rfl, HB2.out.b⟩
                  · have e4 : (K == 4) = false := beq_eq_false_iff_ne.2 h4
                    have e4b : (K != 4) = true := by rw [bne, e4]; rfl
                    obtain rfl : P = true := by rw [HP.out, e2, e3, e4]; simp
                    clear HP h4
                    go_wp2_with fail
                    go_ret
                    exact ⟨rfl, HB2.out.b⟩
end Go.Proofs.YtojiieghjhjoaaaGreat
