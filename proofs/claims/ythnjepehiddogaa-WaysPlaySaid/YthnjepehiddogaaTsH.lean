/-
  WaysPlay: for all steps the law answers true. Conditions: none of its own.
-/
import Derived.Test.YthnjepehiddogaaTsG
import Derived.Deep.QuietTactic
import Derived.BigQuiet
set_option linter.unusedVariables false
set_option linter.unusedSimpArgs false
namespace Go.Proofs.Ythnjepehiddogaa
open Go.RowKit Go.MapKept
open Go.ChangeShapes Go.WideShapes Go.ChangeAt

/-- a step's cells -/
def DoCs (cs : List Value) : Prop := ∃ (kd : Int) (p : Px) (co : Int) (nx : ByteArray), (-9223372036854775808 ≤ kd ∧ kd ≤ 9223372036854775807) ∧ p.In ∧ cs = [.int .i64 kd, .int .i64 p.fam, .int .u64 p.rd, .string p.addr, .int .i64 p.len, .int .i64 co, .string nx]
theorem list7 {α : Type} {l : List α} (h : l.length = 7) : ∃ a b c d e f g, l = [a, b, c, d, e, f, g] := by
  match l, h with
  | [a, b, c, d, e, f, g], _ => exact ⟨a, b, c, d, e, f, g, rfl⟩
section
variable {H : Type} {enc : TypeId × Value → H} {w : World} {held : Bool} {base : Nat} {sp : Nat → Bool}
theorem do_cs {n : Nat} {cs : List Value} {y : DataW H × List MemPlace} (h : DataW.trod enc Try.prog w base sp held n 40 cs = some y) : DoCs cs := by
  obtain ⟨xs, m, rfl, _, hlen, hxl, hf⟩ := DataW.trod_struct Try.underlying40 h
  have hc1 : Try.prog.cellsOf 40 = 7 := by kernel_rfl
  have hc2 : Try.prog.cellsOf 30 = 4 := by kernel_rfl
  have hc4 : Try.prog.cellsOf 3 = 1 := by kernel_rfl
  have hc5 : Try.prog.cellsOf 9 = 1 := by kernel_rfl
  rw [hc1] at hlen
  obtain ⟨a, b, c, d, e, f, g, rfl⟩ := list7 hlen
  have f0 := hf 0 _ rfl
  have f1 := hf 1 _ rfl
  have f2 := hf 2 _ rfl
  have f3 := hf 3 _ rfl
  change DataW.trod enc Try.prog w base sp held m 3 (([a, b, c, d, e, f, g].drop 0).take (Try.prog.cellsOf 3)) = xs[0]? at f0
  change DataW.trod enc Try.prog w base sp held m 30 (([a, b, c, d, e, f, g].drop 1).take (Try.prog.cellsOf 30)) = xs[1]? at f1
  change DataW.trod enc Try.prog w base sp held m 3 (([a, b, c, d, e, f, g].drop 5).take (Try.prog.cellsOf 3)) = xs[2]? at f2
  change DataW.trod enc Try.prog w base sp held m 9 (([a, b, c, d, e, f, g].drop 6).take (Try.prog.cellsOf 9)) = xs[3]? at f3
  simp only [hc2, hc4, hc5, List.drop_succ_cons, List.drop_zero, List.take_succ_cons, List.take_zero] at f0 f1 f2 f3
  have x0 : xs[0]? = some (xs[0]'(by rw [hxl]; decide)) := List.getElem?_eq_getElem _
  have x1 : xs[1]? = some (xs[1]'(by rw [hxl]; decide)) := List.getElem?_eq_getElem _
  have x2 : xs[2]? = some (xs[2]'(by rw [hxl]; decide)) := List.getElem?_eq_getElem _
  have x3 : xs[3]? = some (xs[3]'(by rw [hxl]; decide)) := List.getElem?_eq_getElem _
  rw [x0] at f0
  rw [x1] at f1
  rw [x2] at f2
  rw [x3] at f3
  obtain ⟨kd, rfl, k1, k2⟩ := isI64 Try.underlying3 f0
  obtain ⟨p, hp, hpc⟩ := px_cs f1
  obtain ⟨co, rfl, u1, u2⟩ := isI64 Try.underlying3 f2
  obtain ⟨nx, hnx, _, hnxs⟩ := DataW.trod_string Try.underlying9 f3
  simp only [List.cons.injEq, and_true] at hnx
  subst hnx
  unfold Px.cs at hpc
  simp only [List.cons.injEq, and_true] at hpc
  obtain ⟨rfl, rfl, rfl, rfl⟩ := hpc
  exact ⟨kd, p, co, nx, ⟨k1, k2⟩, hp, rfl⟩
end
theorem cells7 {w : World} {b o : Nat} {x0 x1 x2 x3 x4 x5 x6 : Value} (h : ∀ j, j < 7 → w.cell? ⟨b, o + j, none⟩ = [x0, x1, x2, x3, x4, x5, x6][j]?) :
    w.cell? ⟨b, o, none⟩ = some x0 ∧ w.cell? ⟨b, o + 1, none⟩ = some x1 ∧ w.cell? ⟨b, o + 2, none⟩ = some x2 ∧ w.cell? ⟨b, o + 3, none⟩ = some x3 ∧ w.cell? ⟨b, o + 4, none⟩ = some x4 ∧ w.cell? ⟨b, o + 5, none⟩ = some x5 ∧ w.cell? ⟨b, o + 6, none⟩ = some x6 :=
  ⟨h 0 (by omega), h 1 (by omega), h 2 (by omega), h 3 (by omega), h 4 (by omega), h 5 (by omega), h 6 (by omega)⟩
theorem CellsAt.c7 {w : World} {b : Nat} {T : TypeId} {x0 x1 x2 x3 x4 x5 x6 : Value} (h : CellsAt w b #[x0, x1, x2, x3, x4, x5, x6] T) :
    w.cell? ⟨b, 0, none⟩ = some x0 ∧ w.cell? ⟨b, 1, none⟩ = some x1 ∧ w.cell? ⟨b, 2, none⟩ = some x2 ∧ w.cell? ⟨b, 3, none⟩ = some x3 ∧ w.cell? ⟨b, 4, none⟩ = some x4 ∧ w.cell? ⟨b, 5, none⟩ = some x5 ∧ w.cell? ⟨b, 6, none⟩ = some x6 :=
  ⟨(h.c 0).trans rfl, (h.c 1).trans rfl, (h.c 2).trans rfl, (h.c 3).trans rfl, (h.c 4).trans rfl, (h.c 5).trans rfl, (h.c 6).trans rfl⟩
def DoAt (w : World) (b o : Nat) (kd : Int) (p : Px) (co : Int) (nx : ByteArray) : Prop := w.cell? ⟨b, o, none⟩ = some (.int .i64 kd) ∧ w.cell? ⟨b, o + 1, none⟩ = some (.int .i64 p.fam) ∧ w.cell? ⟨b, o + 2, none⟩ = some (.int .u64 p.rd) ∧ w.cell? ⟨b, o + 3, none⟩ = some (.string p.addr) ∧ w.cell? ⟨b, o + 4, none⟩ = some (.int .i64 p.len) ∧ w.cell? ⟨b, o + 5, none⟩ = some (.int .i64 co) ∧ w.cell? ⟨b, o + 6, none⟩ = some (.string nx)
theorem DoAt.below {w w' : World} {b o B : Nat} {kd co : Int} {p : Px} {nx : ByteArray} (h : DoAt w b o kd p co nx) (hb : Below B w w') (hB : b < B) : DoAt w' b o kd p co nx := by
  obtain ⟨h0, h1, h2, h3, h4, h5, h6⟩ := h
  exact ⟨(hb.cell (p := ⟨b, _, none⟩) hB).trans h0, (hb.cell (p := ⟨b, _, none⟩) hB).trans h1, (hb.cell (p := ⟨b, _, none⟩) hB).trans h2, (hb.cell (p := ⟨b, _, none⟩) hB).trans h3, (hb.cell (p := ⟨b, _, none⟩) hB).trans h4, (hb.cell (p := ⟨b, _, none⟩) hB).trans h5, (hb.cell (p := ⟨b, _, none⟩) hB).trans h6⟩
theorem doAt {w : World} {A : Option Addr} {len cap i : Nat} (h : ElemsIn w A len cap 7 DoCs) (hi : i < len) : ∃ b off kd p co nx, A = some ⟨b, off, none⟩ ∧ b < w.heap.size ∧ (-9223372036854775808 ≤ kd ∧ kd ≤ 9223372036854775807) ∧ p.In ∧ DoAt w b (off + i * 7) kd p co nx := by
  obtain ⟨b, off, cs, hA, hlt, _, ⟨kd, p, co, nx, h1, h2, rfl⟩, hc⟩ := h.at_ hi
  exact ⟨b, off, kd, p, co, nx, hA, hlt, h1, h2, cells7 hc⟩

theorem flat_nil : Flat (LMem []) := ⟨fun q x h => (List.not_mem_nil h).elim, fun q x y h => (List.not_mem_nil h).elim⟩
set_option maxRecDepth 100000 in
set_option maxHeartbeats 8000000 in
theorem waysPlay_walk (A : Option Addr) (len cap : Nat) (w : World) (he : ElemsIn w A len cap 7 DoCs) :
    Calls Try.prog 5 #[.slice A len cap] w fun e w' => e = .returned (.bool true) ∧ Below w.heap.size w w' := by
  have hm1 := he.1
  have hm2 := he.2.1
  unfold maxLen at hm2
  have HE := Lib.hid he
  clear he
  go_enter Try.func5, Try.ntmps5
  go_wp2_with fail
  refine (wnew_any w).mono ?_
  rintro e w1 ⟨rfl, hw1⟩
  have HP0 := Lib.hid (play_new w w (Below.refl _ _))
  rw [← hw1] at HP0
  clear hw1
  go_wp2_with fail
  go_loopw [3, 4, 5] (fun l m i wr => ∃ (j b : Nat) (L : List (Tp × Int)) (v : Value), j ≤ len ∧ j ≤ 150 ∧ L.length ≤ j ∧ l = .pointer (some ⟨b, 0, none⟩) ∧ m = v ∧ i = .int .i64 j ∧ Hid (Flat (LMem L)) ∧ Hid (PlayM w wr b (LMem L) v L)) (fun _ _ i _ => len + 1 - (intOf i).toNat)
  case atStart => exact ⟨0, _, [], _, by omega, by omega, by simp, rfl, rfl, rfl, Lib.hid flat_nil, HP0⟩
  case round =>
    obtain ⟨j, b, L, v, hj1, hj2, hle, rfl, rfl, rfl, HF, HP⟩ := hrel
    clear HP0
    by_cases hlt : j < len ∧ j < 150
    · obtain ⟨t1, t2⟩ := hlt
      obtain ⟨bb, off, kd, p, co, nx, hA, hbl, hkd, hk, hda⟩ := doAt HE.out t1
      subst hA
      have HDA := Lib.hid hda
      have HK := Lib.hid hk
      clear hda hk
      obtain ⟨c0, c1, c2, c3, c4, c5, c6⟩ := HDA.out.below HP.out.below_ hbl
      have HP1 := Lib.hid (HP.out.box #[.int .i64 kd, .int .i64 p.fam, .int .u64 p.rd, .string p.addr, .int .i64 p.len, .int .i64 co, .string nx] 40)
      clear HP
      go_wp2_with fail
      · clear c0 c1 c2 c3 c4 c5 c6
        refine (r_add p HK.out co HP1.out (by omega)).mono ?_
        rintro e w2 ⟨v2, k, L2, hr, rfl, hP⟩
        have HF2 := Lib.hid (hr.flat HF.out)
        have hle := hr.len
        have HR := Lib.hid hr
        have HP2 := Lib.hid hP
        clear hP hr HP1 HF
        have hcl := HP2.out.cells
        obtain ⟨c0, c1, c2, c3, c4, c5, c6⟩ := CellsAt.c7 hcl
        clear hcl
        go_wp2_with fail
        refine (p_add p HK.out HP2.out HR.out).mono ?_
        rintro e w3 ⟨rfl, hP⟩
        have HP3 := Lib.hid hP
        clear hP HP2 HR c0 c1 c2 c3 c4 c5 c6
        have hcl := HP3.out.cells
        obtain ⟨c0, c1, c2, c3, c4, c5, c6⟩ := CellsAt.c7 hcl
        clear hcl
        go_wp2_with fail
        refine (p_cost nx HP3.out).mono ?_
        rintro e wa ⟨xa, ia, hca, rfl, hP⟩
        have HCA := Lib.hid hca
        have HPA := Lib.hid hP
        clear hP hca HP3 c0 c1 c2 c3 c4 c5 c6
        have hcl := HPA.out.cells
        obtain ⟨c0, c1, c2, c3, c4, c5, c6⟩ := CellsAt.c7 hcl
        clear hcl
        go_wp2_with fail
        refine (r_cost nx HPA.out HF2.out (by omega)).mono ?_
        rintro e wb ⟨xb, ib, hcb, rfl, hP⟩
        obtain ⟨rfl, rfl⟩ := CostOf.uniq HF2.out.hM HCA.out hcb
        have HPB := Lib.hid hP.play
        clear hP hcb HCA HPA c0 c1 c2 c3 c4 c5 c6
        go_wp2_with fail
        exact ⟨⟨j + 1, b, L2, _, by omega, by omega, by omega, rfl, rfl, by go_num, HF2, HPB⟩, by simp [intOf]; omega⟩
      · clear c0 c1 c2 c3 c4 c5 c6
        refine (r_del p HK.out HP1.out HF.out (by omega)).mono ?_
        rintro e w2 ⟨v2, D, hr, rfl, hP⟩
        have HF2 := Lib.hid (but_flat (p := p) HF.out)
        have hle := but_le p L
        have HR := Lib.hid hr
        have HP2 := Lib.hid hP
        clear hP hr HP1
        have hcl := HP2.out.cells
        obtain ⟨c0, c1, c2, c3, c4, c5, c6⟩ := CellsAt.c7 hcl
        clear hcl
        go_wp2_with fail
        refine (p_del p HK.out HF.out HP2.out HR.out).mono ?_
        rintro e w3 ⟨rfl, hP⟩
        have HP3 := Lib.hid hP
        clear hP HP2 HR HF c0 c1 c2 c3 c4 c5 c6
        have hcl := HP3.out.cells
        obtain ⟨c0, c1, c2, c3, c4, c5, c6⟩ := CellsAt.c7 hcl
        clear hcl
        go_wp2_with fail
        refine (p_cost nx HP3.out).mono ?_
        rintro e wa ⟨xa, ia, hca, rfl, hP⟩
        have HCA := Lib.hid hca
        have HPA := Lib.hid hP
        clear hP hca HP3 c0 c1 c2 c3 c4 c5 c6
        have hcl := HPA.out.cells
        obtain ⟨c0, c1, c2, c3, c4, c5, c6⟩ := CellsAt.c7 hcl
        clear hcl
        go_wp2_with fail
        refine (r_cost nx HPA.out HF2.out (by omega)).mono ?_
        rintro e wb ⟨xb, ib, hcb, rfl, hP⟩
        obtain ⟨rfl, rfl⟩ := CostOf.uniq HF2.out.hM HCA.out hcb
        have HPB := Lib.hid hP.play
        clear hP hcb HCA HPA c0 c1 c2 c3 c4 c5 c6
        go_wp2_with fail
        exact ⟨⟨j + 1, b, (but p L), _, by omega, by omega, by omega, rfl, rfl, by go_num, HF2, HPB⟩, by simp [intOf]; omega⟩
      · clear c0 c1 c2 c3 c4 c5 c6
        refine (p_copy HP1.out HF.out.fn).mono ?_
        rintro e w2 ⟨bc, rfl, hP⟩
        have HP2 := Lib.hid hP
        clear hP HP1
        have hcl := HP2.out.play.cells
        obtain ⟨c0, c1, c2, c3, c4, c5, c6⟩ := CellsAt.c7 hcl
        clear hcl
        go_wp2_with fail
        refine (s_add p HK.out 7 HP2.out).mono ?_
        rintro e w3 ⟨k, rfl, hP⟩
        have HP3 := Lib.hid hP
        clear hP HP2 c0 c1 c2 c3 c4 c5 c6
        have hcl := HP3.out.play.cells
        obtain ⟨c0, c1, c2, c3, c4, c5, c6⟩ := CellsAt.c7 hcl
        clear hcl
        go_wp2_with fail
        refine (s_del p HK.out HP3.out).mono ?_
        rintro e w4 ⟨g, rfl, hP⟩
        have HP4 := Lib.hid hP.play
        clear hP HP3 c0 c1 c2 c3 c4 c5 c6
        have hcl := HP4.out.cells
        obtain ⟨c0, c1, c2, c3, c4, c5, c6⟩ := CellsAt.c7 hcl
        clear hcl
        go_wp2_with fail
        refine (p_cost nx HP4.out).mono ?_
        rintro e wa ⟨xa, ia, hca, rfl, hP⟩
        have HCA := Lib.hid hca
        have HPA := Lib.hid hP
        clear hP hca HP4 c0 c1 c2 c3 c4 c5 c6
        have hcl := HPA.out.cells
        obtain ⟨c0, c1, c2, c3, c4, c5, c6⟩ := CellsAt.c7 hcl
        clear hcl
        go_wp2_with fail
        refine (r_cost nx HPA.out HF.out (by omega)).mono ?_
        rintro e wb ⟨xb, ib, hcb, rfl, hP⟩
        obtain ⟨rfl, rfl⟩ := CostOf.uniq HF.out.hM HCA.out hcb
        have HPB := Lib.hid hP.play
        clear hP hcb HCA HPA c0 c1 c2 c3 c4 c5 c6
        go_wp2_with fail
        exact ⟨⟨j + 1, bc, L, _, by omega, by omega, by omega, rfl, rfl, by go_num, HF, HPB⟩, by simp [intOf]; omega⟩
      · have hcl := HP1.out.cells
        obtain ⟨c0, c1, c2, c3, c4, c5, c6⟩ := CellsAt.c7 hcl
        clear hcl
        go_wp2_with fail
        refine (p_cost nx HP1.out).mono ?_
        rintro e wa ⟨xa, ia, hca, rfl, hP⟩
        have HCA := Lib.hid hca
        have HPA := Lib.hid hP
        clear hP hca HP1 c0 c1 c2 c3 c4 c5 c6
        have hcl := HPA.out.cells
        obtain ⟨c0, c1, c2, c3, c4, c5, c6⟩ := CellsAt.c7 hcl
        clear hcl
        go_wp2_with fail
        refine (r_cost nx HPA.out HF.out (by omega)).mono ?_
        rintro e wb ⟨xb, ib, hcb, rfl, hP⟩
        obtain ⟨rfl, rfl⟩ := CostOf.uniq HF.out.hM HCA.out hcb
        have HPB := Lib.hid hP.play
        clear hP hcb HCA HPA c0 c1 c2 c3 c4 c5 c6
        go_wp2_with fail
        exact ⟨⟨j + 1, b, L, _, by omega, by omega, by omega, rfl, rfl, by go_num, HF, HPB⟩, by simp [intOf]; omega⟩
    · have hend : len ≤ j ∨ j = 150 := by omega
      have HPB := Lib.hid HP.out.below_
      rcases hend with hend | rfl
      · go_wp2_with fail
        refine (works_any _).mono ?_
        rintro e w2 ⟨rfl, hb⟩
        go_wp2_with fail
        go_ret
        exact ⟨rfl, HPB.out.trans (hb.mono HPB.out.size)⟩
      · by_cases h150 : 150 < len
        all_goals
          go_wp2_with fail
          refine (works_any _).mono ?_
          rintro e w2 ⟨rfl, hb⟩
          go_wp2_with fail
          go_ret
          exact ⟨rfl, HPB.out.trans (hb.mono HPB.out.size)⟩
end Go.Proofs.Ythnjepehiddogaa
