/-
  LabelsPlay: for all lows, highs, steps the law answers true. Conditions: none of its own.
-/
import Derived.Test.YtngehobekmijbaaRlG
import Derived.Test.YtngehobekmijbaaLabG
import Derived.Deep.QuietTactic
import Derived.BigQuiet
set_option linter.unusedVariables false
set_option linter.unusedSimpArgs false
namespace Go.Proofs.Ytngehobekmijbaa
open Go.RowKit Go.MapKept
open Go.Maps (Keyed)
open Go.ChangeShapes Go.WideShapes Go.ChangeAt

/-- a step's cells -/
def DoCs (cs : List Value) : Prop := ∃ (kd : Int) (k : LK) (n : Nat), (-9223372036854775808 ≤ kd ∧ kd ≤ 9223372036854775807) ∧ k.Ok ∧ n < 4294967296 ∧ cs = [.int .i64 kd, .string k.vrf, .int .i64 k.fam, .int .u64 k.rd, .string k.addr, .int .i64 k.len, .int .u32 (n : Nat)]
theorem list7 {α : Type} {l : List α} (h : l.length = 7) : ∃ a b c d e f g, l = [a, b, c, d, e, f, g] := by
  match l, h with
  | [a, b, c, d, e, f, g], _ => exact ⟨a, b, c, d, e, f, g, rfl⟩
section
variable {H : Type} {enc : TypeId × Value → H} {w : World} {held : Bool} {base : Nat} {sp : Nat → Bool}
theorem do_cs {n : Nat} {cs : List Value} {y : DataW H × List MemPlace} (h : DataW.trod enc Try.prog w base sp held n 48 cs = some y) : DoCs cs := by
  obtain ⟨xs, m, rfl, _, hlen, hxl, hf⟩ := DataW.trod_struct Try.underlying48 h
  have hc1 : Try.prog.cellsOf 48 = 7 := by kernel_rfl
  have hc2 : Try.prog.cellsOf 34 = 5 := by kernel_rfl
  have hc4 : Try.prog.cellsOf 3 = 1 := by kernel_rfl
  have hc5 : Try.prog.cellsOf 27 = 1 := by kernel_rfl
  rw [hc1] at hlen
  obtain ⟨a, b, c, d, e, f, g, rfl⟩ := list7 hlen
  have f0 := hf 0 _ rfl
  have f1 := hf 1 _ rfl
  have f2 := hf 2 _ rfl
  change DataW.trod enc Try.prog w base sp held m 3 (([a, b, c, d, e, f, g].drop 0).take (Try.prog.cellsOf 3)) = xs[0]? at f0
  change DataW.trod enc Try.prog w base sp held m 34 (([a, b, c, d, e, f, g].drop 1).take (Try.prog.cellsOf 34)) = xs[1]? at f1
  change DataW.trod enc Try.prog w base sp held m 27 (([a, b, c, d, e, f, g].drop 6).take (Try.prog.cellsOf 27)) = xs[2]? at f2
  simp only [hc2, hc4, hc5, List.drop_succ_cons, List.drop_zero, List.take_succ_cons, List.take_zero] at f0 f1 f2
  have x0 : xs[0]? = some (xs[0]'(by rw [hxl]; decide)) := List.getElem?_eq_getElem _
  have x1 : xs[1]? = some (xs[1]'(by rw [hxl]; decide)) := List.getElem?_eq_getElem _
  have x2 : xs[2]? = some (xs[2]'(by rw [hxl]; decide)) := List.getElem?_eq_getElem _
  rw [x0] at f0
  rw [x1] at f1
  rw [x2] at f2
  obtain ⟨kd, rfl, k1, k2⟩ := isI64 Try.underlying3 f0
  obtain ⟨k, hk, hkc⟩ := key_cs f1
  obtain ⟨u, rfl, u1, u2⟩ := isU32 Try.underlying27 f2
  obtain ⟨n, rfl⟩ := Int.eq_ofNat_of_zero_le u1
  simp only [List.cons.injEq, and_true] at hkc
  obtain ⟨rfl, rfl, rfl, rfl, rfl⟩ := hkc
  exact ⟨kd, k, n, ⟨k1, k2⟩, hk, by omega, rfl⟩
end
theorem cells7 {w : World} {b o : Nat} {x0 x1 x2 x3 x4 x5 x6 : Value} (h : ∀ j, j < 7 → w.cell? ⟨b, o + j, none⟩ = [x0, x1, x2, x3, x4, x5, x6][j]?) :
    w.cell? ⟨b, o, none⟩ = some x0 ∧ w.cell? ⟨b, o + 1, none⟩ = some x1 ∧ w.cell? ⟨b, o + 2, none⟩ = some x2 ∧ w.cell? ⟨b, o + 3, none⟩ = some x3 ∧ w.cell? ⟨b, o + 4, none⟩ = some x4 ∧ w.cell? ⟨b, o + 5, none⟩ = some x5 ∧ w.cell? ⟨b, o + 6, none⟩ = some x6 :=
  ⟨h 0 (by omega), h 1 (by omega), h 2 (by omega), h 3 (by omega), h 4 (by omega), h 5 (by omega), h 6 (by omega)⟩
theorem CellsAt.c7 {w : World} {b : Nat} {T : TypeId} {x0 x1 x2 x3 x4 x5 x6 : Value} (h : CellsAt w b #[x0, x1, x2, x3, x4, x5, x6] T) :
    w.cell? ⟨b, 0, none⟩ = some x0 ∧ w.cell? ⟨b, 1, none⟩ = some x1 ∧ w.cell? ⟨b, 2, none⟩ = some x2 ∧ w.cell? ⟨b, 3, none⟩ = some x3 ∧ w.cell? ⟨b, 4, none⟩ = some x4 ∧ w.cell? ⟨b, 5, none⟩ = some x5 ∧ w.cell? ⟨b, 6, none⟩ = some x6 :=
  ⟨(h.c 0).trans rfl, (h.c 1).trans rfl, (h.c 2).trans rfl, (h.c 3).trans rfl, (h.c 4).trans rfl, (h.c 5).trans rfl, (h.c 6).trans rfl⟩
def DoAt (w : World) (b o : Nat) (kd : Int) (k : LK) (n : Nat) : Prop := w.cell? ⟨b, o, none⟩ = some (.int .i64 kd) ∧ w.cell? ⟨b, o + 1, none⟩ = some (.string k.vrf) ∧ w.cell? ⟨b, o + 2, none⟩ = some (.int .i64 k.fam) ∧ w.cell? ⟨b, o + 3, none⟩ = some (.int .u64 k.rd) ∧ w.cell? ⟨b, o + 4, none⟩ = some (.string k.addr) ∧ w.cell? ⟨b, o + 5, none⟩ = some (.int .i64 k.len) ∧ w.cell? ⟨b, o + 6, none⟩ = some (.int .u32 (n : Nat))
theorem DoAt.below {w w' : World} {b o B n : Nat} {kd : Int} {k : LK} (h : DoAt w b o kd k n) (hb : Below B w w') (hB : b < B) : DoAt w' b o kd k n := by
  obtain ⟨h0, h1, h2, h3, h4, h5, h6⟩ := h
  exact ⟨(hb.cell (p := ⟨b, _, none⟩) hB).trans h0, (hb.cell (p := ⟨b, _, none⟩) hB).trans h1, (hb.cell (p := ⟨b, _, none⟩) hB).trans h2, (hb.cell (p := ⟨b, _, none⟩) hB).trans h3, (hb.cell (p := ⟨b, _, none⟩) hB).trans h4, (hb.cell (p := ⟨b, _, none⟩) hB).trans h5, (hb.cell (p := ⟨b, _, none⟩) hB).trans h6⟩
theorem doAt {w : World} {A : Option Addr} {len cap i : Nat} (h : ElemsIn w A len cap 7 DoCs) (hi : i < len) : ∃ b off kd k n, A = some ⟨b, off, none⟩ ∧ b < w.heap.size ∧ (-9223372036854775808 ≤ kd ∧ kd ≤ 9223372036854775807) ∧ LK.Ok k ∧ n < 4294967296 ∧ DoAt w b (off + i * 7) kd k n := by
  obtain ⟨b, off, cs, hA, hlt, _, ⟨kd, k, n, h1, h2, h3, rfl⟩, hc⟩ := h.at_ hi
  exact ⟨b, off, kd, k, n, hA, hlt, h1, h2, h3, cells7 hc⟩

set_option maxRecDepth 100000 in
set_option maxHeartbeats 8000000 in
theorem labelsPlay_walk (A : Option Addr) (len cap : Nat) (low high : Nat) (w : World) (he : ElemsIn w A len cap 7 DoCs) (g1 : low < 4294967296) (g2 : high < 4294967296) :
    Calls Try.prog 5 #[.int .u32 low, .int .u32 high, .slice A len cap] w fun e w' => e = .returned (.bool true) ∧ Below w.heap.size w w' := by
  have hm1 := he.1
  have hm2 := he.2.1
  unfold maxLen at hm2
  have HE := Lib.hid he
  clear he
  by_cases hok : 16 ≤ low ∧ low ≤ high ∧ high ≤ 1048575
  · obtain ⟨o1, o2, o3⟩ := hok
    go_enter Try.func5, Try.ntmps5
    go_wp2_with fail
    refine (new_ok low high _ (by omega) (by omega) (by omega)).mono ?_
    rintro e w1 ⟨rfl, hL, hb, hz⟩
    have hx0 : w.heap.size ≤ w1.heap.size := hb.size
    have HP0 : Hid (PlayAt w w1 (w.heap.size + 2) w.heap.size (w.heap.size + 1) low high [] (.slice none 0 0) []) := by
      exact ⟨⟨[], hL, List.Perm.refl _⟩, OwnM.nil _ _ _ _, (fun g hg => by simp [Value.ownBlock] at hg), by omega, by omega, hb⟩
    clear hL hb hz
    go_wp2_with fail
    go_loopw [7, 9, 10] (fun l m i wr => ∃ (j b m1 m2 : Nat) (M : List (LK × Nat)), j ≤ len ∧ j ≤ 150 ∧ M.length ≤ j ∧ l = .pointer (some ⟨b, 0, none⟩) ∧ i = .int .i64 j ∧ Hid (PlayAt w wr b m1 m2 low high M m M)) (fun _ _ i _ => len + 1 - (intOf i).toNat)
    case atStart => exact ⟨0, _, _, _, [], by omega, by omega, by simp, rfl, rfl, HP0.out⟩
    case round =>
      obtain ⟨j, b, m1, m2, M, hj1, hj2, hM, rfl, rfl, HP⟩ := hrel
      clear HP0
      have hM2 : M.length ≤ 1000000 := by omega
      obtain ⟨A2, cp2, rfl⟩ := OwnM.form HP.out.held
      have HKEY := Lib.hid HP.out.keys
      have HLAB := Lib.hid HP.out.labels
      obtain ⟨S0, hl0, _⟩ := HP.out.lab
      obtain ⟨lt0, lt1, lt2⟩ := hl0.lt
      clear hl0
      by_cases hlt : j < len ∧ j < 150
      · obtain ⟨t1, t2⟩ := hlt
        obtain ⟨bb, off, kd, k, n, hA, hbl, hkd, hk, hn, hda⟩ := doAt HE.out t1
        subst hA
        have HDA := Lib.hid hda
        have HK := Lib.hid hk
        clear hda hk
        obtain ⟨c0, c1, c2, c3, c4, c5, c6⟩ := HDA.out.below HP.out.below hbl
        have HP1 := Lib.hid (HP.out.alloc (.cells #[.int .i64 kd, .string k.vrf, .int .i64 k.fam, .int .u64 k.rd, .string k.addr, .int .i64 k.len, .int .u32 (n : Nat)] 48))
        have HX1 := Lib.hid (CellsAt.new wr #[.int .i64 kd, .string k.vrf, .int .i64 k.fam, .int .u64 k.rd, .string k.addr, .int .i64 k.len, .int .u32 (n : Nat)] 48)
        go_wp2_with fail
        · clear c0 c1 c2 c3 c4 c5 c6
          refine (p_take k HK.out HP1.out).mono ?_
          rintro e w2 ⟨M1, n1, e1, hr1, rfl, hP, hg⟩
          have HX2 := Lib.hid (hg.at_ HX1.out (by omega))
          have HP2 := Lib.hid hP
          have HR1 := Lib.hid hr1
          clear hP hg hr1 HP1 HX1 HP
          obtain ⟨c0, c1, c2, c3, c4, c5, c6⟩ := CellsAt.c7 HX2.out
          go_wp2_with fail
          refine (r_take k HK.out HP2.out hM2).mono ?_
          rintro e w3 ⟨v', M2, n2, e2, hr2, rfl, hP⟩
          obtain ⟨rfl, rfl, rfl⟩ := TkRel.uniq HKEY.out HR1.out hr2
          have hM3 : M1.length ≤ M.length + 1 := by
            rcases hr2 with ⟨_, rfl, _⟩ | ⟨_, _, rfl, _⟩ | ⟨_, _, _, rfl, _⟩ | ⟨_, _, _, rfl, _⟩ <;> simp
          obtain ⟨A3, cp3, rfl⟩ := OwnM.form hP.held
          have HP3 := Lib.hid hP
          clear hP hr2 HR1 HP2 HX2 c0 c1 c2 c3 c4 c5 c6
          go_wp2_with fail
          refine (p_left HP3.out (by omega)).mono ?_
          rintro e wl ⟨rfl, hP⟩
          have HPl := Lib.hid hP
          clear hP
          go_wp2_with fail
          exact ⟨⟨j + 1, b, m1, m2, M1, by omega, by omega, by omega, rfl, by go_num, HPl.out⟩, by simp [intOf]; omega⟩
        · clear c0 c1 c2 c3 c4 c5 c6
          refine (r_give k HK.out HP1.out hM2).mono ?_
          rintro e w2 ⟨v', rfl, hP, hb⟩
          have HX2 := Lib.hid (HX1.out.below hb HX1.out.lt)
          obtain ⟨A3, cp3, rfl⟩ := OwnM.form hP.held
          have HP2 := Lib.hid hP
          clear hP hb HP1 HX1 HP
          obtain ⟨c0, c1, c2, c3, c4, c5, c6⟩ := CellsAt.c7 HX2.out
          have hgl := gvM_le M k
          generalize hX : decide ((gvM M k).length < M.length) = X
          have HXX := Lib.hid hX
          clear hX
          go_wp2_with fail
          refine (p_give k HK.out HP2.out).mono ?_
          rintro e w3 ⟨rfl, hP, -⟩
          have HP3 := Lib.hid hP
          clear hP HP2 HX2 c0 c1 c2 c3 c4 c5 c6
          rw [HXX.out]
          cases X
          · go_wp2_with fail
            refine (p_left HP3.out (by omega)).mono ?_
            rintro e wl ⟨rfl, hP⟩
            have HPl := Lib.hid hP
            clear hP
            go_wp2_with fail
            exact ⟨⟨j + 1, b, m1, m2, _, by omega, by omega, by omega, rfl, by go_num, HPl.out⟩, by simp [intOf]; omega⟩
          · go_wp2_with fail
            refine (p_left HP3.out (by omega)).mono ?_
            rintro e wl ⟨rfl, hP⟩
            have HPl := Lib.hid hP
            clear hP
            go_wp2_with fail
            exact ⟨⟨j + 1, b, m1, m2, _, by omega, by omega, by omega, rfl, by go_num, HPl.out⟩, by simp [intOf]; omega⟩
        · clear c0 c1 c2 c3 c4 c5 c6
          refine (p_of k HK.out HP1.out).mono ?_
          rintro e w2 ⟨n1, t1', hr1, rfl, hP, hb⟩
          have HX2 := Lib.hid (HX1.out.below hb HX1.out.lt)
          have HP2 := Lib.hid hP
          have HR1 := Lib.hid hr1
          clear hP hb hr1 HP1 HX1 HP
          obtain ⟨c0, c1, c2, c3, c4, c5, c6⟩ := CellsAt.c7 HX2.out
          go_wp2_with fail
          refine (r_of k HK.out HP2.out hM2).mono ?_
          rintro e w3 ⟨n2, t2', hr2, rfl, hP, hb⟩
          obtain ⟨rfl, rfl⟩ := OfRel.uniq HKEY.out HR1.out hr2
          have HX3 := Lib.hid (HX2.out.below hb HX2.out.lt)
          have HP3 := Lib.hid hP
          clear hP hb hr2 HR1 HP2 HX2 c0 c1 c2 c3 c4 c5 c6
          obtain ⟨c0, c1, c2, c3, c4, c5, c6⟩ := CellsAt.c7 HX3.out
          go_wp2_with fail
          refine (p_key n hn HP3.out).mono ?_
          rintro e w4 ⟨k1, t3', hr1, rfl, hP, hb⟩
          have HX4 := Lib.hid ((HX3.out.below hb HX3.out.lt).alloc (.cells #[.string k1.vrf, .int .i64 k1.fam, .int .u64 k1.rd, .string k1.addr, .int .i64 k1.len] 34))
          have HY4 := Lib.hid (CellsAt.new w4 #[.string k1.vrf, .int .i64 k1.fam, .int .u64 k1.rd, .string k1.addr, .int .i64 k1.len] 34)
          have HP4 := Lib.hid (hP.alloc (.cells #[.string k1.vrf, .int .i64 k1.fam, .int .u64 k1.rd, .string k1.addr, .int .i64 k1.len] 34))
          have HR1 := Lib.hid hr1
          clear hP hb hr1 HP3 HX3 c0 c1 c2 c3 c4 c5 c6
          obtain ⟨c0, c1, c2, c3, c4, c5, c6⟩ := CellsAt.c7 HX4.out
          go_wp2_with fail
          refine (r_key n HP4.out hM2).mono ?_
          rintro e w5 ⟨k2, t4', hr2, rfl, hP, hb⟩
          obtain ⟨rfl, rfl⟩ := KyRel.uniq HLAB.out HR1.out hr2
          have HY5 := Lib.hid ((HY4.out.below hb HY4.out.lt).alloc (.cells #[.string k1.vrf, .int .i64 k1.fam, .int .u64 k1.rd, .string k1.addr, .int .i64 k1.len] 34))
          have HZ5 := Lib.hid (CellsAt.new w5 #[.string k1.vrf, .int .i64 k1.fam, .int .u64 k1.rd, .string k1.addr, .int .i64 k1.len] 34)
          have HP5 := Lib.hid (hP.alloc (.cells #[.string k1.vrf, .int .i64 k1.fam, .int .u64 k1.rd, .string k1.addr, .int .i64 k1.len] 34))
          clear hP hb hr2 HR1 HP4 HX4 HY4 c0 c1 c2 c3 c4 c5 c6
          obtain ⟨y0, y1, y2, y3, y4⟩ := HY5.out.c5
          obtain ⟨z0, z1, z2, z3, z4⟩ := HZ5.out.c5
          go_wp2_with fail
          refine (p_left HP5.out (by omega)).mono ?_
          rintro e wl ⟨rfl, hP⟩
          have HPl := Lib.hid hP
          clear hP
          go_wp2_with fail
          exact ⟨⟨j + 1, b, m1, m2, M, by omega, by omega, by omega, rfl, by go_num, HPl.out⟩, by simp [intOf]; omega⟩
        · clear c0 c1 c2 c3 c4 c5 c6
          refine (p_copy HP1.out).mono ?_
          rintro e w2 ⟨b', m1', m2', rfl, hP, ⟨S1, hl1, hp1⟩, ⟨d1, d2, d3, d4, d5, d6⟩, ha, f1, f2, hb⟩
          have HX2 := Lib.hid (HX1.out.below hb HX1.out.lt)
          have HP2 := Lib.hid hP
          have HL := Lib.hid hl1
          have HPE := Lib.hid hp1
          have HAP := Lib.hid ha
          have HD := Lib.hid (show b' ≠ m1 ∧ b' ≠ m2 ∧ m1' ≠ m1 ∧ m1' ≠ m2 ∧ m2' ≠ m1 ∧ m2' ≠ m2 from ⟨d1, d2, d3, d4, d5, d6⟩)
          clear hP hb hl1 hp1 ha HP1 HX1 HP d1 d2 d3 d4 d5 d6
          obtain ⟨c0, c1, c2, c3, c4, c5, c6⟩ := CellsAt.c7 HX2.out
          go_wp2_with fail
          refine (p_take k HK.out HP2.out).mono ?_
          rintro e w3 ⟨M1, n1, e1, _, rfl, hP, hg⟩
          have HX3 := Lib.hid (hg.at_ HX2.out (by omega))
          have HP3 := Lib.hid hP
          have HL3 := Lib.hid (HL.out.grownX hg (fun i hi => by
            obtain ⟨d1, d2, d3, d4, d5, d6⟩ := HD.out
            rcases hi with rfl | rfl
            · exact ⟨d1.symm, d3.symm, d5.symm⟩
            · exact ⟨d2.symm, d4.symm, d6.symm⟩))
          clear hP hg HP2 HX2 HL c0 c1 c2 c3 c4 c5 c6
          obtain ⟨c0, c1, c2, c3, c4, c5, c6⟩ := CellsAt.c7 HX3.out
          go_wp2_with fail
          refine (p_give k HK.out HP3.out).mono ?_
          rintro e w4 ⟨rfl, hP, hg⟩
          have HL4 := Lib.hid (HL3.out.grownX hg (fun i hi => by
            obtain ⟨d1, d2, d3, d4, d5, d6⟩ := HD.out
            rcases hi with rfl | rfl
            · exact ⟨d1.symm, d3.symm, d5.symm⟩
            · exact ⟨d2.symm, d4.symm, d6.symm⟩))
          have HP4 : Hid (PlayAt w w4 b' m1' m2' low high M (.slice A2 M.length cp2) M) := by
            exact ⟨⟨S1, HL4.out, HPE.out⟩, hP.held, HAP.out, f1, f2, hP.below⟩
          clear hP hg HP3 HX3 HL3 c0 c1 c2 c3 c4 c5 c6
          generalize decide ((gvM M1 k).length < M1.length) = X
          go_wp2_with fail
          refine (p_left HP4.out (by omega)).mono ?_
          rintro e wl ⟨rfl, hP⟩
          have HPl := Lib.hid hP
          clear hP
          go_wp2_with fail
          exact ⟨⟨j + 1, b', m1', m2', M, by omega, by omega, by omega, rfl, by go_num, HPl.out⟩, by simp [intOf]; omega⟩
        · clear c0 c1 c2 c3 c4 c5 c6
          refine (p_left HP1.out (by omega)).mono ?_
          rintro e wl ⟨rfl, hP⟩
          have HPl := Lib.hid hP
          clear hP
          go_wp2_with fail
          exact ⟨⟨j + 1, b, m1, m2, M, by omega, by omega, by omega, rfl, by go_num, HPl.out⟩, by simp [intOf]; omega⟩
      · have hend : len ≤ j ∨ j = 150 := by omega
        have HPB := Lib.hid HP.out.below
        rcases hend with hend | rfl
        · go_wp2_with fail
          refine (works_any _).mono ?_
          rintro e w2 ⟨rfl, hb⟩
          go_wp2_with fail
          go_ret
          exact ⟨rfl, HPB.out.trans (hb.mono HPB.out.size)⟩
        · by_cases h150 : 150 < len
          all_goals
            go_wp2_with fail
            refine (works_any _).mono ?_
            rintro e w2 ⟨rfl, hb⟩
            go_wp2_with fail
            go_ret
            exact ⟨rfl, HPB.out.trans (hb.mono HPB.out.size)⟩
  · go_enter Try.func5, Try.ntmps5
    go_wp2_with fail
    refine (new_bad low high _ (by omega)).mono ?_
    rintro e w1 ⟨rfl, rfl⟩
    by_cases q1 : 16 ≤ low
    · by_cases q2 : low ≤ high
      · have q3 : ¬ high ≤ 1048575 := by omega
        clear hok
        go_wp2_with fail
        refine (works_any _).mono ?_
        rintro e w2 ⟨rfl, hb⟩
        go_wp2_with fail
        go_ret
        exact ⟨rfl, hb⟩
      · clear hok
        go_wp2_with fail
        refine (works_any _).mono ?_
        rintro e w2 ⟨rfl, hb⟩
        go_wp2_with fail
        go_ret
        exact ⟨rfl, hb⟩
    · clear hok
      go_wp2_with fail
      refine (works_any _).mono ?_
      rintro e w2 ⟨rfl, hb⟩
      go_wp2_with fail
      go_ret
      exact ⟨rfl, hb⟩
end Go.Proofs.Ytngehobekmijbaa
