/-
  Several texts in one.
-/
import Derived.Test.YtojiieghjhjoaaaGreatMY51
set_option linter.unusedVariables false
set_option linter.unusedSimpArgs false
namespace Go.Proofs.YtojiieghjhjoaaaGreat
open Go.RowKit Go.MapKept Go.Shelf
open Go.Lib hiding intOf

section
variable {H : Type} {enc : TypeId × Value → H} {w : World} {held : Bool}

theorem listx5 {α : Type} {l : List α} (h : l.length = 5) : ∃ c0 c1 c2 c3 c4, l = [c0, c1, c2, c3, c4] := by
  match l, h with
  | [c0, c1, c2, c3, c4], _ => exact ⟨c0, c1, c2, c3, c4, rfl⟩
theorem listx29 {α : Type} {l : List α} (h : l.length = 29) : ∃ c0 c1 c2 c3 c4 c5 c6 c7 c8 c9 c10 c11 c12 c13 c14 c15 c16 c17 c18 c19 c20 c21 c22 c23 c24 c25 c26 c27 c28, l = [c0, c1, c2, c3, c4, c5, c6, c7, c8, c9, c10, c11, c12, c13, c14, c15, c16, c17, c18, c19, c20, c21, c22, c23, c24, c25, c26, c27, c28] := by
  match l, h with
  | [c0, c1, c2, c3, c4, c5, c6, c7, c8, c9, c10, c11, c12, c13, c14, c15, c16, c17, c18, c19, c20, c21, c22, c23, c24, c25, c26, c27, c28], _ => exact ⟨c0, c1, c2, c3, c4, c5, c6, c7, c8, c9, c10, c11, c12, c13, c14, c15, c16, c17, c18, c19, c20, c21, c22, c23, c24, c25, c26, c27, c28, rfl⟩
theorem listx23 {α : Type} {l : List α} (h : l.length = 23) : ∃ c0 c1 c2 c3 c4 c5 c6 c7 c8 c9 c10 c11 c12 c13 c14 c15 c16 c17 c18 c19 c20 c21 c22, l = [c0, c1, c2, c3, c4, c5, c6, c7, c8, c9, c10, c11, c12, c13, c14, c15, c16, c17, c18, c19, c20, c21, c22] := by
  match l, h with
  | [c0, c1, c2, c3, c4, c5, c6, c7, c8, c9, c10, c11, c12, c13, c14, c15, c16, c17, c18, c19, c20, c21, c22], _ => exact ⟨c0, c1, c2, c3, c4, c5, c6, c7, c8, c9, c10, c11, c12, c13, c14, c15, c16, c17, c18, c19, c20, c21, c22, rfl⟩
set_option maxRecDepth 100000 in
theorem open_i64s {fuel : Nat} {v : Value} {x : DataW H × List MemPlace} (h : DataW.trod enc Tryz.prog w 0 (fun _ => true) held fuel 38 [v] = some x) (hw : Light Tryz.prog 38 x.1) :
    ∃ (A : Option Addr) (l : List Int) (cap : Nat), v = .slice A l.length cap ∧ Rd w A 1 (l.map i1) ∧ (∀ n ∈ l, True) ∧ l.length ≤ cap ∧ cap ≤ maxLen ∧ l.length * 8 ≤ 140737488351232 :=
  open_list i1 (fun n => True) Tryz.underlying38 (C := 1) (by kernel_rfl) (by decide) (fun _ => rfl) (fun n cs y hl ht _ => by
    match cs, hl with
    | [u], _ =>
      obtain ⟨z, rfl, z0, z1⟩ := isI64 Tryz.underlying3 ht
      exact ⟨z, rfl, trivial⟩) h hw
set_option maxRecDepth 100000 in
theorem open_us {fuel : Nat} {cs : List Value} {x : DataW H × List MemPlace} (h : DataW.trod enc Tryz.prog w 0 (fun _ => true) held fuel 24 cs = some x) (hw : Light Tryz.prog 24 x.1) (hlen : cs.length = 5) : ∃ g : Cfg, cs = g.us.toList ∧ g.Ok := by
  obtain ⟨c0, c1, c2, c3, c4, rfl⟩ := listx5 hlen
  obtain ⟨_, _, uf0, ug0⟩ := trod_field Tryz.underlying24 h hw 0 22 0 1 ⟨_, rfl, rfl, rfl⟩ (by kernel_rfl)
  simp only [List.drop_succ_cons, List.drop_zero, List.take_succ_cons, List.take_zero] at uf0
  obtain ⟨_, _, uf1, ug1⟩ := trod_field Tryz.underlying24 h hw 1 22 1 1 ⟨_, rfl, rfl, rfl⟩ (by kernel_rfl)
  simp only [List.drop_succ_cons, List.drop_zero, List.take_succ_cons, List.take_zero] at uf1
  obtain ⟨_, _, uf2, ug2⟩ := trod_field Tryz.underlying24 h hw 2 22 2 1 ⟨_, rfl, rfl, rfl⟩ (by kernel_rfl)
  simp only [List.drop_succ_cons, List.drop_zero, List.take_succ_cons, List.take_zero] at uf2
  obtain ⟨_, _, uf3, ug3⟩ := trod_field Tryz.underlying24 h hw 3 22 3 1 ⟨_, rfl, rfl, rfl⟩ (by kernel_rfl)
  simp only [List.drop_succ_cons, List.drop_zero, List.take_succ_cons, List.take_zero] at uf3
  obtain ⟨_, _, uf4, ug4⟩ := trod_field Tryz.underlying24 h hw 4 9 4 1 ⟨_, rfl, rfl, rfl⟩ (by kernel_rfl)
  simp only [List.drop_succ_cons, List.drop_zero, List.take_succ_cons, List.take_zero] at uf4
  clear h hw
  obtain ⟨ux0, rfl, ua0, ub0⟩ := isU32 Tryz.underlying22 uf0
  obtain ⟨ux0, rfl⟩ := Int.eq_ofNat_of_zero_le ua0
  obtain ⟨ux1, rfl, ua1, ub1⟩ := isU32 Tryz.underlying22 uf1
  obtain ⟨ux1, rfl⟩ := Int.eq_ofNat_of_zero_le ua1
  obtain ⟨ux2, rfl, ua2, ub2⟩ := isU32 Tryz.underlying22 uf2
  obtain ⟨ux2, rfl⟩ := Int.eq_ofNat_of_zero_le ua2
  obtain ⟨ux3, rfl, ua3, ub3⟩ := isU32 Tryz.underlying22 uf3
  obtain ⟨ux3, rfl⟩ := Int.eq_ofNat_of_zero_le ua3
  obtain ⟨ux4, ue4, ud4, us4⟩ := DataW.trod_string Tryz.underlying9 uf4
  simp only [List.cons.injEq, and_true] at ue4
  subst ue4
  have uz4 : ux4.size ≤ 140737488351232 := ug4 _ (by rw [ud4]; simp [DataW.weights])
  exact ⟨⟨ux0, ux1, ux2, ux3, ux4⟩, rfl, ⟨by show ux0 < _; omega, by show ux1 < _; omega, by show ux2 < _; omega, by show ux3 < _; omega, by show ux4.size ≤ _; omega⟩⟩
set_option maxRecDepth 100000 in
theorem open_pth {fuel : Nat} {cs : List Value} {x : DataW H × List MemPlace} (h : DataW.trod enc Tryz.prog w 0 (fun _ => true) held fuel 37 cs = some x) (hw : Light Tryz.prog 37 x.1) (hlen : cs.length = 29) : ∃ p : Pth, cs = p.ar.toList ∧ PthOk w p := by
  obtain ⟨c0, c1, c2, c3, c4, c5, c6, c7, c8, c9, c10, c11, c12, c13, c14, c15, c16, c17, c18, c19, c20, c21, c22, c23, c24, c25, c26, c27, c28, rfl⟩ := listx29 hlen
  obtain ⟨_, _, pf0, pg0⟩ := trod_field Tryz.underlying37 h hw 0 27 0 4 ⟨_, rfl, rfl, rfl⟩ (by kernel_rfl)
  simp only [List.drop_succ_cons, List.drop_zero, List.take_succ_cons, List.take_zero] at pf0
  obtain ⟨_, _, pf1, pg1⟩ := trod_field Tryz.underlying37 h hw 1 22 4 1 ⟨_, rfl, rfl, rfl⟩ (by kernel_rfl)
  simp only [List.drop_succ_cons, List.drop_zero, List.take_succ_cons, List.take_zero] at pf1
  obtain ⟨_, _, pf2, pg2⟩ := trod_field Tryz.underlying37 h hw 2 22 5 1 ⟨_, rfl, rfl, rfl⟩ (by kernel_rfl)
  simp only [List.drop_succ_cons, List.drop_zero, List.take_succ_cons, List.take_zero] at pf2
  obtain ⟨_, _, pf3, pg3⟩ := trod_field Tryz.underlying37 h hw 3 33 6 16 ⟨_, rfl, rfl, rfl⟩ (by kernel_rfl)
  simp only [List.drop_succ_cons, List.drop_zero, List.take_succ_cons, List.take_zero] at pf3
  obtain ⟨_, _, pf4, pg4⟩ := trod_field Tryz.underlying37 h hw 4 35 22 6 ⟨_, rfl, rfl, rfl⟩ (by kernel_rfl)
  simp only [List.drop_succ_cons, List.drop_zero, List.take_succ_cons, List.take_zero] at pf4
  obtain ⟨_, _, pf5, pg5⟩ := trod_field Tryz.underlying37 h hw 5 4 28 1 ⟨_, rfl, rfl, rfl⟩ (by kernel_rfl)
  simp only [List.drop_succ_cons, List.drop_zero, List.take_succ_cons, List.take_zero] at pf5
  clear h hw
  obtain ⟨_, _, nf0, ng0⟩ := trod_field Tryz.underlying27 pf0 pg0 0 3 0 1 ⟨_, rfl, rfl, rfl⟩ (by kernel_rfl)
  simp only [List.drop_succ_cons, List.drop_zero, List.take_succ_cons, List.take_zero] at nf0
  obtain ⟨_, _, nf1, ng1⟩ := trod_field Tryz.underlying27 pf0 pg0 1 25 1 1 ⟨_, rfl, rfl, rfl⟩ (by kernel_rfl)
  simp only [List.drop_succ_cons, List.drop_zero, List.take_succ_cons, List.take_zero] at nf1
  obtain ⟨_, _, nf2, ng2⟩ := trod_field Tryz.underlying27 pf0 pg0 2 9 2 1 ⟨_, rfl, rfl, rfl⟩ (by kernel_rfl)
  simp only [List.drop_succ_cons, List.drop_zero, List.take_succ_cons, List.take_zero] at nf2
  obtain ⟨_, _, nf3, ng3⟩ := trod_field Tryz.underlying27 pf0 pg0 3 3 3 1 ⟨_, rfl, rfl, rfl⟩ (by kernel_rfl)
  simp only [List.drop_succ_cons, List.drop_zero, List.take_succ_cons, List.take_zero] at nf3
  obtain ⟨_, _, sf0, sg0⟩ := trod_field Tryz.underlying35 pf4 pg4 0 3 0 1 ⟨_, rfl, rfl, rfl⟩ (by kernel_rfl)
  simp only [List.drop_succ_cons, List.drop_zero, List.take_succ_cons, List.take_zero] at sf0
  obtain ⟨_, _, sf1, sg1⟩ := trod_field Tryz.underlying35 pf4 pg4 1 9 1 1 ⟨_, rfl, rfl, rfl⟩ (by kernel_rfl)
  simp only [List.drop_succ_cons, List.drop_zero, List.take_succ_cons, List.take_zero] at sf1
  obtain ⟨_, _, sf2, sg2⟩ := trod_field Tryz.underlying35 pf4 pg4 2 22 2 1 ⟨_, rfl, rfl, rfl⟩ (by kernel_rfl)
  simp only [List.drop_succ_cons, List.drop_zero, List.take_succ_cons, List.take_zero] at sf2
  obtain ⟨_, _, sf3, sg3⟩ := trod_field Tryz.underlying35 pf4 pg4 3 22 3 1 ⟨_, rfl, rfl, rfl⟩ (by kernel_rfl)
  simp only [List.drop_succ_cons, List.drop_zero, List.take_succ_cons, List.take_zero] at sf3
  obtain ⟨_, _, sf4, sg4⟩ := trod_field Tryz.underlying35 pf4 pg4 4 9 4 1 ⟨_, rfl, rfl, rfl⟩ (by kernel_rfl)
  simp only [List.drop_succ_cons, List.drop_zero, List.take_succ_cons, List.take_zero] at sf4
  obtain ⟨_, _, sf5, sg5⟩ := trod_field Tryz.underlying35 pf4 pg4 5 9 5 1 ⟨_, rfl, rfl, rfl⟩ (by kernel_rfl)
  simp only [List.drop_succ_cons, List.drop_zero, List.take_succ_cons, List.take_zero] at sf5
  obtain ⟨nx0, rfl, na0, nb0⟩ := isI64 Tryz.underlying3 nf0
  obtain ⟨nx1, rfl, na1, nb1⟩ := isU64 Tryz.underlying25 nf1
  obtain ⟨nx2, ne2, nd2, ns2⟩ := DataW.trod_string Tryz.underlying9 nf2
  simp only [List.cons.injEq, and_true] at ne2
  subst ne2
  have nz2 : nx2.size ≤ 140737488351232 := ng2 _ (by rw [nd2]; simp [DataW.weights])
  obtain ⟨nx3, rfl, na3, nb3⟩ := isI64 Tryz.underlying3 nf3
  obtain ⟨px1, rfl, pa1, pb1⟩ := isU32 Tryz.underlying22 pf1
  obtain ⟨px2, rfl, pa2, pb2⟩ := isU32 Tryz.underlying22 pf2
  obtain ⟨a, ae, ao, az⟩ := open_attrs pf3 pg3 rfl
  obtain ⟨sx0, rfl, sa0, sb0⟩ := isI64 Tryz.underlying3 sf0
  obtain ⟨sx1, se1, sd1, ss1⟩ := DataW.trod_string Tryz.underlying9 sf1
  simp only [List.cons.injEq, and_true] at se1
  subst se1
  have sz1 : sx1.size ≤ 140737488351232 := sg1 _ (by rw [sd1]; simp [DataW.weights])
  obtain ⟨sx2, rfl, sa2, sb2⟩ := isU32 Tryz.underlying22 sf2
  obtain ⟨sx2, rfl⟩ := Int.eq_ofNat_of_zero_le sa2
  obtain ⟨sx3, rfl, sa3, sb3⟩ := isU32 Tryz.underlying22 sf3
  obtain ⟨sx3, rfl⟩ := Int.eq_ofNat_of_zero_le sa3
  obtain ⟨sx4, se4, sd4, ss4⟩ := DataW.trod_string Tryz.underlying9 sf4
  simp only [List.cons.injEq, and_true] at se4
  subst se4
  have sz4 : sx4.size ≤ 140737488351232 := sg4 _ (by rw [sd4]; simp [DataW.weights])
  obtain ⟨sx5, se5, sd5, ss5⟩ := DataW.trod_string Tryz.underlying9 sf5
  simp only [List.cons.injEq, and_true] at se5
  subst se5
  have sz5 : sx5.size ≤ 140737488351232 := sg5 _ (by rw [sd5]; simp [DataW.weights])
  obtain ⟨px5, rfl⟩ := isBool Tryz.underlying4 pf5
  simp only [Atr.cs, List.cons.injEq, and_true] at ae
  obtain ⟨rfl, rfl, rfl, rfl, rfl, rfl, rfl, rfl, rfl, rfl, rfl, rfl, rfl, rfl, rfl, rfl⟩ := ae
  exact ⟨⟨⟨nx0, nx1, nx2, nx3, px1, px2⟩, a, sx0, sx1, sx2, sx3, sx4, sx5, px5⟩, rfl, ⟨⟨⟨by show _ ≤ nx0; omega, by show nx0 ≤ _; omega⟩, ⟨by show _ ≤ nx1; omega, by show nx1 < _; omega⟩, by show nx2.size ≤ _; omega, ⟨by show _ ≤ nx3; omega, by show nx3 ≤ _; omega⟩, ⟨by show _ ≤ px1; omega, by show px1 < _; omega⟩, ⟨by show _ ≤ px2; omega, by show px2 < _; omega⟩⟩, ao, az, by show sx1.size ≤ _; omega, ⟨by show _ ≤ sx0; omega, by show sx0 ≤ _; omega⟩, ⟨by show sx2 < _; omega, by show sx3 < _; omega⟩⟩⟩
set_option maxRecDepth 100000 in
theorem open_pr {fuel : Nat} {cs : List Value} {x : DataW H × List MemPlace} (h : DataW.trod enc Tryz.prog w 0 (fun _ => true) held fuel 40 cs = some x) (hw : Light Tryz.prog 40 x.1) (hlen : cs.length = 23) : ∃ t : Pr, cs = t.ar.toList ∧ PrOk w t := by
  obtain ⟨c0, c1, c2, c3, c4, c5, c6, c7, c8, c9, c10, c11, c12, c13, c14, c15, c16, c17, c18, c19, c20, c21, c22, rfl⟩ := listx23 hlen
  obtain ⟨_, _, tf0, tg0⟩ := trod_field Tryz.underlying40 h hw 0 9 0 1 ⟨_, rfl, rfl, rfl⟩ (by kernel_rfl)
  simp only [List.drop_succ_cons, List.drop_zero, List.take_succ_cons, List.take_zero] at tf0
  obtain ⟨_, _, tf1, tg1⟩ := trod_field Tryz.underlying40 h hw 1 9 1 1 ⟨_, rfl, rfl, rfl⟩ (by kernel_rfl)
  simp only [List.drop_succ_cons, List.drop_zero, List.take_succ_cons, List.take_zero] at tf1
  obtain ⟨_, _, tf2, tg2⟩ := trod_field Tryz.underlying40 h hw 2 27 2 4 ⟨_, rfl, rfl, rfl⟩ (by kernel_rfl)
  simp only [List.drop_succ_cons, List.drop_zero, List.take_succ_cons, List.take_zero] at tf2
  obtain ⟨_, _, tf3, tg3⟩ := trod_field Tryz.underlying40 h hw 3 22 6 1 ⟨_, rfl, rfl, rfl⟩ (by kernel_rfl)
  simp only [List.drop_succ_cons, List.drop_zero, List.take_succ_cons, List.take_zero] at tf3
  obtain ⟨_, _, tf4, tg4⟩ := trod_field Tryz.underlying40 h hw 4 3 7 1 ⟨_, rfl, rfl, rfl⟩ (by kernel_rfl)
  simp only [List.drop_succ_cons, List.drop_zero, List.take_succ_cons, List.take_zero] at tf4
  obtain ⟨_, _, tf5, tg5⟩ := trod_field Tryz.underlying40 h hw 5 3 8 1 ⟨_, rfl, rfl, rfl⟩ (by kernel_rfl)
  simp only [List.drop_succ_cons, List.drop_zero, List.take_succ_cons, List.take_zero] at tf5
  obtain ⟨_, _, tf6, tg6⟩ := trod_field Tryz.underlying40 h hw 6 4 9 1 ⟨_, rfl, rfl, rfl⟩ (by kernel_rfl)
  simp only [List.drop_succ_cons, List.drop_zero, List.take_succ_cons, List.take_zero] at tf6
  obtain ⟨_, _, tf7, tg7⟩ := trod_field Tryz.underlying40 h hw 7 4 10 1 ⟨_, rfl, rfl, rfl⟩ (by kernel_rfl)
  simp only [List.drop_succ_cons, List.drop_zero, List.take_succ_cons, List.take_zero] at tf7
  obtain ⟨_, _, tf8, tg8⟩ := trod_field Tryz.underlying40 h hw 8 4 11 1 ⟨_, rfl, rfl, rfl⟩ (by kernel_rfl)
  simp only [List.drop_succ_cons, List.drop_zero, List.take_succ_cons, List.take_zero] at tf8
  obtain ⟨_, _, tf9, tg9⟩ := trod_field Tryz.underlying40 h hw 9 38 12 1 ⟨_, rfl, rfl, rfl⟩ (by kernel_rfl)
  simp only [List.drop_succ_cons, List.drop_zero, List.take_succ_cons, List.take_zero] at tf9
  obtain ⟨_, _, tf10, tg10⟩ := trod_field Tryz.underlying40 h hw 10 3 13 1 ⟨_, rfl, rfl, rfl⟩ (by kernel_rfl)
  simp only [List.drop_succ_cons, List.drop_zero, List.take_succ_cons, List.take_zero] at tf10
  obtain ⟨_, _, tf11, tg11⟩ := trod_field Tryz.underlying40 h hw 11 4 14 1 ⟨_, rfl, rfl, rfl⟩ (by kernel_rfl)
  simp only [List.drop_succ_cons, List.drop_zero, List.take_succ_cons, List.take_zero] at tf11
  obtain ⟨_, _, tf12, tg12⟩ := trod_field Tryz.underlying40 h hw 12 3 15 1 ⟨_, rfl, rfl, rfl⟩ (by kernel_rfl)
  simp only [List.drop_succ_cons, List.drop_zero, List.take_succ_cons, List.take_zero] at tf12
  obtain ⟨_, _, tf13, tg13⟩ := trod_field Tryz.underlying40 h hw 13 4 16 1 ⟨_, rfl, rfl, rfl⟩ (by kernel_rfl)
  simp only [List.drop_succ_cons, List.drop_zero, List.take_succ_cons, List.take_zero] at tf13
  obtain ⟨_, _, tf14, tg14⟩ := trod_field Tryz.underlying40 h hw 14 3 17 1 ⟨_, rfl, rfl, rfl⟩ (by kernel_rfl)
  simp only [List.drop_succ_cons, List.drop_zero, List.take_succ_cons, List.take_zero] at tf14
  obtain ⟨_, _, tf15, tg15⟩ := trod_field Tryz.underlying40 h hw 15 3 18 1 ⟨_, rfl, rfl, rfl⟩ (by kernel_rfl)
  simp only [List.drop_succ_cons, List.drop_zero, List.take_succ_cons, List.take_zero] at tf15
  obtain ⟨_, _, tf16, tg16⟩ := trod_field Tryz.underlying40 h hw 16 9 19 1 ⟨_, rfl, rfl, rfl⟩ (by kernel_rfl)
  simp only [List.drop_succ_cons, List.drop_zero, List.take_succ_cons, List.take_zero] at tf16
  obtain ⟨_, _, tf17, tg17⟩ := trod_field Tryz.underlying40 h hw 17 9 20 1 ⟨_, rfl, rfl, rfl⟩ (by kernel_rfl)
  simp only [List.drop_succ_cons, List.drop_zero, List.take_succ_cons, List.take_zero] at tf17
  obtain ⟨_, _, tf18, tg18⟩ := trod_field Tryz.underlying40 h hw 18 9 21 1 ⟨_, rfl, rfl, rfl⟩ (by kernel_rfl)
  simp only [List.drop_succ_cons, List.drop_zero, List.take_succ_cons, List.take_zero] at tf18
  obtain ⟨_, _, tf19, tg19⟩ := trod_field Tryz.underlying40 h hw 19 4 22 1 ⟨_, rfl, rfl, rfl⟩ (by kernel_rfl)
  simp only [List.drop_succ_cons, List.drop_zero, List.take_succ_cons, List.take_zero] at tf19
  clear h hw
  obtain ⟨_, _, nf0, ng0⟩ := trod_field Tryz.underlying27 tf2 tg2 0 3 0 1 ⟨_, rfl, rfl, rfl⟩ (by kernel_rfl)
  simp only [List.drop_succ_cons, List.drop_zero, List.take_succ_cons, List.take_zero] at nf0
  obtain ⟨_, _, nf1, ng1⟩ := trod_field Tryz.underlying27 tf2 tg2 1 25 1 1 ⟨_, rfl, rfl, rfl⟩ (by kernel_rfl)
  simp only [List.drop_succ_cons, List.drop_zero, List.take_succ_cons, List.take_zero] at nf1
  obtain ⟨_, _, nf2, ng2⟩ := trod_field Tryz.underlying27 tf2 tg2 2 9 2 1 ⟨_, rfl, rfl, rfl⟩ (by kernel_rfl)
  simp only [List.drop_succ_cons, List.drop_zero, List.take_succ_cons, List.take_zero] at nf2
  obtain ⟨_, _, nf3, ng3⟩ := trod_field Tryz.underlying27 tf2 tg2 3 3 3 1 ⟨_, rfl, rfl, rfl⟩ (by kernel_rfl)
  simp only [List.drop_succ_cons, List.drop_zero, List.take_succ_cons, List.take_zero] at nf3
  obtain ⟨nx0, rfl, na0, nb0⟩ := isI64 Tryz.underlying3 nf0
  obtain ⟨nx1, rfl, na1, nb1⟩ := isU64 Tryz.underlying25 nf1
  obtain ⟨nx2, ne2, nd2, ns2⟩ := DataW.trod_string Tryz.underlying9 nf2
  simp only [List.cons.injEq, and_true] at ne2
  subst ne2
  have nz2 : nx2.size ≤ 140737488351232 := ng2 _ (by rw [nd2]; simp [DataW.weights])
  obtain ⟨nx3, rfl, na3, nb3⟩ := isI64 Tryz.underlying3 nf3
  obtain ⟨tx0, te0, td0, ts0⟩ := DataW.trod_string Tryz.underlying9 tf0
  simp only [List.cons.injEq, and_true] at te0
  subst te0
  have tz0 : tx0.size ≤ 140737488351232 := tg0 _ (by rw [td0]; simp [DataW.weights])
  obtain ⟨tx1, te1, td1, ts1⟩ := DataW.trod_string Tryz.underlying9 tf1
  simp only [List.cons.injEq, and_true] at te1
  subst te1
  have tz1 : tx1.size ≤ 140737488351232 := tg1 _ (by rw [td1]; simp [DataW.weights])
  obtain ⟨tx3, rfl, ta3, tb3⟩ := isU32 Tryz.underlying22 tf3
  obtain ⟨tx3, rfl⟩ := Int.eq_ofNat_of_zero_le ta3
  obtain ⟨tx4, rfl, ta4, tb4⟩ := isI64 Tryz.underlying3 tf4
  obtain ⟨tx5, rfl, ta5, tb5⟩ := isI64 Tryz.underlying3 tf5
  obtain ⟨tx6, rfl⟩ := isBool Tryz.underlying4 tf6
  obtain ⟨tx7, rfl⟩ := isBool Tryz.underlying4 tf7
  obtain ⟨tx8, rfl⟩ := isBool Tryz.underlying4 tf8
  obtain ⟨tA, tl, tc, rfl, tr, tq, tn, tm, tw⟩ := open_i64s tf9 tg9
  obtain ⟨tx10, rfl, ta10, tb10⟩ := isI64 Tryz.underlying3 tf10
  obtain ⟨tx11, rfl⟩ := isBool Tryz.underlying4 tf11
  obtain ⟨tx12, rfl, ta12, tb12⟩ := isI64 Tryz.underlying3 tf12
  obtain ⟨tx13, rfl⟩ := isBool Tryz.underlying4 tf13
  obtain ⟨tx14, rfl, ta14, tb14⟩ := isI64 Tryz.underlying3 tf14
  obtain ⟨tx15, rfl, ta15, tb15⟩ := isI64 Tryz.underlying3 tf15
  obtain ⟨tx16, te16, td16, ts16⟩ := DataW.trod_string Tryz.underlying9 tf16
  simp only [List.cons.injEq, and_true] at te16
  subst te16
  have tz16 : tx16.size ≤ 140737488351232 := tg16 _ (by rw [td16]; simp [DataW.weights])
  obtain ⟨tx17, te17, td17, ts17⟩ := DataW.trod_string Tryz.underlying9 tf17
  simp only [List.cons.injEq, and_true] at te17
  subst te17
  have tz17 : tx17.size ≤ 140737488351232 := tg17 _ (by rw [td17]; simp [DataW.weights])
  obtain ⟨tx18, te18, td18, ts18⟩ := DataW.trod_string Tryz.underlying9 tf18
  simp only [List.cons.injEq, and_true] at te18
  subst te18
  have tz18 : tx18.size ≤ 140737488351232 := tg18 _ (by rw [td18]; simp [DataW.weights])
  obtain ⟨tx19, rfl⟩ := isBool Tryz.underlying4 tf19
  exact ⟨⟨tx0, tx1, nx0, nx1, nx2, nx3, tx3, tx4, tx5, tx6, tx7, tx8, tA, tl, tc, tx10, tx11, tx12, tx13, tx14, tx15, tx16, tx17, tx18, tx19⟩, rfl, ⟨tr, tn, tm, by show tx0.size ≤ _; omega, by show tx3 < _; omega⟩⟩
end
end Go.Proofs.YtojiieghjhjoaaaGreat
