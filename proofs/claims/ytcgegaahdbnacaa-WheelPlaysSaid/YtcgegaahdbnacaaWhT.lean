/-
  WheelPlays: for all acts the law answers true. Conditions: none of its own.
-/
import Derived.Test.YtcgegaahdbnacaaWhS
import Derived.Test.YtcgegaahdbnacaaOpenAny
set_option linter.unusedVariables false
set_option linter.unusedSimpArgs false
namespace Go.Proofs.Ytcgegaahdbnacaa
open Go.RowKit Go.MapKept Go.Shelf Go.Lib
open Go.Maps (Keyed)
open Go.ChangeShapes Go.WideShapes Go.ChangeAt

theorem PW.perm {w wr : World} {SL L : List Tm} {v : Value} (h : PW w wr SL v L) (hp : SL.Perm L) : PW w wr L v L := by
  obtain ⟨S, h1, h2⟩ := h.wh
  exact ⟨⟨S, h1, h2.trans hp⟩, h.sees, h.below, h.size⟩
theorem Sees.keep2 {w w' : World} {base : Nat} {v : Value} {l : List Tm} (h : Sees w base v l) (hk : ∀ g, base ≤ g → g < w.heap.size → v.ownBlock = some g → 0 < l.length → w'.heap[g]? = w.heap[g]?) (hs : w.heap.size ≤ w'.heap.size) : Sees w' base v l := by
  obtain ⟨A, cap, rfl, h1, h2, h3, h4, h5⟩ := h.ex
  refine ⟨A, cap, rfl, h1, h2, h3, h4, fun hl => ?_⟩
  obtain ⟨g, off, rfl, hb, hlt, hc⟩ := h5 hl
  refine ⟨g, off, rfl, hb, Nat.lt_of_lt_of_le hlt hs, fun i x hx c hcc => ?_⟩
  rw [← hc i x hx c hcc]
  simp only [World.cell?, hk g hb hlt rfl hl]
open Classical in
theorem AtRel.had {L : List Tm} {k : WK} {n : Nat} {t : Bool} (h : AtRel L k n t) : t = decide (∃ p ∈ L, p.k = k) := by
  rcases h with ⟨h1, rfl⟩ | ⟨h1, _, rfl⟩
  · rw [decide_eq_true ⟨_, h1, rfl⟩]
  · rw [decide_eq_false (fun ⟨p, hp, e⟩ => h1 p hp e)]

/-- an act's cells -/
def ActCs (cs : List Value) : Prop := ∃ (t : Int) (k : WK) (n : Nat), (-9223372036854775808 ≤ t ∧ t ≤ 9223372036854775807) ∧ k.Ok ∧ n < 18446744073709551616 ∧ cs = [.int .i64 t, .int .i64 k.kind, .string k.peer, .int .i64 k.fam, .int .u64 (n : Nat)]
theorem list5 {α : Type} {l : List α} (h : l.length = 5) : ∃ a b c d e, l = [a, b, c, d, e] := by
  match l, h with
  | [a, b, c, d, e], _ => exact ⟨a, b, c, d, e, rfl⟩
section
variable {H : Type} {enc : TypeId × Value → H} {w : World} {held : Bool} {base : Nat} {sp : Nat → Bool}
theorem act_cs {n : Nat} {cs : List Value} {y : DataW H × List MemPlace} (h : DataW.trod enc Try.prog w base sp held n 53 cs = some y) : ActCs cs := by
  obtain ⟨xs, m, rfl, _, hlen, hxl, hf⟩ := DataW.trod_struct Try.underlying53 h
  have hc1 : Try.prog.cellsOf 53 = 5 := by kernel_rfl
  have hc2 : Try.prog.cellsOf 30 = 3 := by kernel_rfl
  have hc3 : Try.prog.cellsOf 9 = 1 := by kernel_rfl
  have hc4 : Try.prog.cellsOf 3 = 1 := by kernel_rfl
  have hc5 : Try.prog.cellsOf 27 = 1 := by kernel_rfl
  rw [hc1] at hlen
  obtain ⟨a, b, c, d, e, rfl⟩ := list5 hlen
  have f0 := hf 0 _ rfl
  have f1 := hf 1 _ rfl
  have f2 := hf 2 _ rfl
  change DataW.trod enc Try.prog w base sp held m 3 (([a, b, c, d, e].drop 0).take (Try.prog.cellsOf 3)) = xs[0]? at f0
  change DataW.trod enc Try.prog w base sp held m 30 (([a, b, c, d, e].drop 1).take (Try.prog.cellsOf 30)) = xs[1]? at f1
  change DataW.trod enc Try.prog w base sp held m 27 (([a, b, c, d, e].drop 4).take (Try.prog.cellsOf 27)) = xs[2]? at f2
  simp only [hc2, hc4, hc5, List.drop_succ_cons, List.drop_zero, List.take_succ_cons, List.take_zero] at f0 f1 f2
  have x0 : xs[0]? = some (xs[0]'(by rw [hxl]; decide)) := List.getElem?_eq_getElem _
  have x1 : xs[1]? = some (xs[1]'(by rw [hxl]; decide)) := List.getElem?_eq_getElem _
  have x2 : xs[2]? = some (xs[2]'(by rw [hxl]; decide)) := List.getElem?_eq_getElem _
  rw [x0] at f0
  rw [x1] at f1
  rw [x2] at f2
  obtain ⟨t, rfl, t1, t2⟩ := isI64 Try.underlying3 f0
  obtain ⟨zs, m2, rfl, _, hlen2, hzl, hg⟩ := DataW.trod_struct Try.underlying30 f1
  obtain ⟨u, rfl, u1, u2⟩ := isU64 Try.underlying27 f2
  have g0 := hg 0 _ rfl
  have g1 := hg 1 _ rfl
  have g2 := hg 2 _ rfl
  change DataW.trod enc Try.prog w base sp held m2 3 (([b, c, d].drop 0).take (Try.prog.cellsOf 3)) = zs[0]? at g0
  change DataW.trod enc Try.prog w base sp held m2 9 (([b, c, d].drop 1).take (Try.prog.cellsOf 9)) = zs[1]? at g1
  change DataW.trod enc Try.prog w base sp held m2 3 (([b, c, d].drop 2).take (Try.prog.cellsOf 3)) = zs[2]? at g2
  simp only [hc3, hc4, List.drop_succ_cons, List.drop_zero, List.take_succ_cons, List.take_zero] at g0 g1 g2
  have z0 : zs[0]? = some (zs[0]'(by rw [hzl]; decide)) := List.getElem?_eq_getElem _
  have z1 : zs[1]? = some (zs[1]'(by rw [hzl]; decide)) := List.getElem?_eq_getElem _
  have z2 : zs[2]? = some (zs[2]'(by rw [hzl]; decide)) := List.getElem?_eq_getElem _
  rw [z0] at g0
  rw [z1] at g1
  rw [z2] at g2
  obtain ⟨kd, rfl, k1, k2⟩ := isI64 Try.underlying3 g0
  obtain ⟨pe, hpe, _, hps⟩ := DataW.trod_string Try.underlying9 g1
  obtain ⟨fm, rfl, f1a, f1b⟩ := isI64 Try.underlying3 g2
  simp only [List.cons.injEq, and_true] at hpe
  subst hpe
  unfold maxLen at hps
  obtain ⟨n, rfl⟩ := Int.eq_ofNat_of_zero_le u1
  exact ⟨t, ⟨kd, pe, fm⟩, n, ⟨t1, t2⟩, ⟨hps, ⟨k1, k2⟩, ⟨f1a, f1b⟩⟩, by omega, rfl⟩
end
def ActAt (w : World) (b o : Nat) (t : Int) (k : WK) (n : Nat) : Prop := w.cell? ⟨b, o, none⟩ = some (.int .i64 t) ∧ w.cell? ⟨b, o + 1, none⟩ = some (.int .i64 k.kind) ∧ w.cell? ⟨b, o + 2, none⟩ = some (.string k.peer) ∧ w.cell? ⟨b, o + 3, none⟩ = some (.int .i64 k.fam) ∧ w.cell? ⟨b, o + 4, none⟩ = some (.int .u64 (n : Nat))
theorem ActAt.below {w w' : World} {b o B n : Nat} {t : Int} {k : WK} (h : ActAt w b o t k n) (hb : Below B w w') (hB : b < B) : ActAt w' b o t k n := by
  obtain ⟨h0, h1, h2, h3, h4⟩ := h
  exact ⟨(hb.cell (p := ⟨b, _, none⟩) hB).trans h0, (hb.cell (p := ⟨b, _, none⟩) hB).trans h1, (hb.cell (p := ⟨b, _, none⟩) hB).trans h2, (hb.cell (p := ⟨b, _, none⟩) hB).trans h3, (hb.cell (p := ⟨b, _, none⟩) hB).trans h4⟩
theorem actAt {w : World} {A : Option Addr} {len cap i : Nat} (h : ElemsIn w A len cap 5 ActCs) (hi : i < len) : ∃ b off t k n, A = some ⟨b, off, none⟩ ∧ b < w.heap.size ∧ (-9223372036854775808 ≤ t ∧ t ≤ 9223372036854775807) ∧ WK.Ok k ∧ n < 18446744073709551616 ∧ ActAt w b (off + i * 5) t k n := by
  obtain ⟨b, off, cs, hA, hlt, _, ⟨t, k, n, h1, h2, h3, rfl⟩, hc⟩ := h.at_ hi
  exact ⟨b, off, t, k, n, hA, hlt, h1, h2, h3, hc 0 (by omega), hc 1 (by omega), hc 2 (by omega), hc 3 (by omega), hc 4 (by omega)⟩

set_option maxRecDepth 100000 in
set_option maxHeartbeats 16000000 in
theorem wheelPlays_walk (A : Option Addr) (len cap : Nat) (w : World) (he : ElemsIn w A len cap 5 ActCs) :
    Calls Try.prog 6 #[.slice A len cap] w fun e w' => e = .returned (.bool true) ∧ Below w.heap.size w w' := by
  have hm1 := he.1
  have hm2 := he.2.1
  unfold maxLen at hm2
  have HE := Lib.hid he
  clear he
  go_enter Try.func6, Try.ntmps6
  go_wp2_with fail
  refine (wnew_any _).mono ?_
  rintro e w1 ⟨rfl, hW, hb, hz⟩
  have HP0 : Hid (PW w w1 [] (.slice none 0 0) []) :=
    ⟨⟨[], hW, List.Perm.refl _⟩, ⟨none, 0, rfl, by simp, by unfold maxLen; omega, fun _ => rfl, (fun a e => by cases e), fun h => absurd h (by simp)⟩, hb, by omega⟩
  clear hW hb hz
  go_wp2_with fail
  go_loopw [4, 5] (fun u4 x wr => ∃ (j : Nat) (L : List Tm), j ≤ len ∧ j ≤ 80 ∧ x = .int .i64 j ∧ Hid (PW w wr L u4 L) ∧ Hid (Ord L)) (fun _ x _ => len + 1 - (intOf x).toNat)
  case atStart => exact ⟨0, [], by omega, by omega, rfl, HP0.out, Ord.nil⟩
  case round =>
    obtain ⟨j, L, hj1, hj2, rfl, HP, HO⟩ := hrel
    clear HP0
    have hL := HP.out.len
    obtain ⟨A2, cp2, e2, hA1, hA2⟩ := HP.out.sees.form
    subst e2
    have HKEY := Lib.hid HP.out.keys
    have hwz := HP.out.size
    by_cases hlt : j < len ∧ j < 80
    · obtain ⟨t1, t2⟩ := hlt
      obtain ⟨bb, off, t, k, n, hA, hbl, ht, hk, hn, hda⟩ := actAt HE.out t1
      subst hA
      have HDA := Lib.hid hda
      have HK := Lib.hid hk
      clear hda hk
      obtain ⟨c0, c1, c2, c3, c4⟩ := HDA.out.below HP.out.below hbl
      have HP1 := Lib.hid (HP.out.alloc (.cells #[.int .i64 t, .int .i64 k.kind, .string k.peer, .int .i64 k.fam, .int .u64 (n : Nat)] 53))
      have HX1 := Lib.hid (CellsAt.new wr #[.int .i64 t, .int .i64 k.kind, .string k.peer, .int .i64 k.fam, .int .u64 (n : Nat)] 53)
      clear HP
      by_cases q0 : t = 0
      · subst q0
        go_wp2_with fail
        refine (p_at k HK.out HP1.out).mono ?_
        rintro e w2 ⟨n1, t1, hr1, rfl, hP, hb⟩
        have HX2 := Lib.hid (HX1.out.below hb HX1.out.lt)
        have HP2 := Lib.hid hP
        have HR1 := Lib.hid hr1
        clear hP hb hr1 HP1 HX1 c0 c1 c2 c3 c4
        obtain ⟨c0, c1, c2, c3, c4⟩ := CellsAt.c5 HX2.out
        go_wp2_with fail
        refine (r_at k hL HP2.out).mono ?_
        rintro e w3 ⟨n2, t2, hr2, rfl, hP, hb⟩
        obtain ⟨rfl, rfl⟩ := AtRel.uniq HKEY.out HR1.out hr2
        have HX3 := Lib.hid (HX2.out.below hb HX2.out.lt)
        have HP3 := Lib.hid hP
        clear hP hb hr2 HP2 HX2 c0 c1 c2 c3 c4
        obtain ⟨c0, c1, c2, c3, c4⟩ := CellsAt.c5 HX3.out
        go_wp2_with fail
        refine (p_arm k n HK.out HP3.out).mono ?_
        rintro e w4 ⟨M1, e1, hr1, rfl, hP, hg⟩
        have HX4 := Lib.hid (HX3.out.grownX hg (by omega))
        have HP4 := Lib.hid hP
        have HR2 := Lib.hid hr1
        clear hP hg hr1 HP3 HX3 c0 c1 c2 c3 c4
        obtain ⟨c0, c1, c2, c3, c4⟩ := CellsAt.c5 HX4.out
        go_wp2_with fail
        refine (r_arm k n HK.out hL HO.out HP4.out).mono ?_
        rintro e w5 ⟨v', M2, e2, hr2, hO2, rfl, hP⟩
        obtain ⟨rfl, hperm⟩ := ArRel.uniq HR2.out hr2
        have HPE := Lib.hid (hP.perm hperm)
        have HOE := Lib.hid hO2
        clear hP hr2 hO2 hperm HP4 HX4 HR2 c0 c1 c2 c3 c4
        obtain ⟨A5, cp5, e5, _⟩ := HPE.out.sees.form
        subst e5
        go_wp2_with fail
        refine (p_next (List.Perm.refl _) HOE.out HPE.out).mono ?_
        rintro e wN ⟨hcase, hP⟩
        have HPN := Lib.hid hP
        obtain ⟨AN, cN, eN, hN1, hN2⟩ := hP.sees.form
        clear hP HPE
        simp only [Value.slice.injEq] at eN
        obtain ⟨rfl, _, rfl⟩ := eN
        rcases hcase with ⟨h0, rfl⟩ | ⟨y, hy, rfl⟩
        · subst h0
          go_wp2_with fail
          refine (p_len HPN.out).mono ?_
          rintro e wL ⟨rfl, hw⟩
          have hw := hw.symm
          subst hw
          go_wp2_with fail
          exact ⟨⟨j + 1, [], by omega, by omega, by go_num, HPN.out, Ord.nil⟩, by simp [intOf]; omega⟩
        · have hpos : 0 < (M2).length := (List.getElem?_eq_some_iff.1 hy).1
          obtain ⟨gN, oN, rfl, _, _, d0, d1, d2, d3⟩ := HPN.out.sees.at_ hy
          simp only [Nat.zero_mul, Nat.add_zero] at d0
          clear hy d1 d2 d3
          go_wp2_with fail
          refine (p_len HPN.out).mono ?_
          rintro e wL ⟨rfl, hw⟩
          have hw := hw.symm
          subst hw
          go_wp2_with fail
          exact ⟨⟨j + 1, M2, by omega, by omega, by go_num, HPN.out, HOE.out⟩, by simp [intOf]; omega⟩
      by_cases q1 : t = 1
      · subst q1
        go_wp2_with fail
        refine (p_at k HK.out HP1.out).mono ?_
        rintro e w2 ⟨n1, t1, hr1, rfl, hP, hb⟩
        have HX2 := Lib.hid (HX1.out.below hb HX1.out.lt)
        have HP2 := Lib.hid hP
        have HR1 := Lib.hid hr1
        clear hP hb hr1 HP1 HX1 c0 c1 c2 c3 c4
        obtain ⟨c0, c1, c2, c3, c4⟩ := CellsAt.c5 HX2.out
        go_wp2_with fail
        refine (r_at k hL HP2.out).mono ?_
        rintro e w3 ⟨n2, t2, hr2, rfl, hP, hb⟩
        obtain ⟨rfl, rfl⟩ := AtRel.uniq HKEY.out HR1.out hr2
        have HX3 := Lib.hid (HX2.out.below hb HX2.out.lt)
        have HP3 := Lib.hid hP
        clear hP hb hr2 HP2 HX2 c0 c1 c2 c3 c4
        obtain ⟨c0, c1, c2, c3, c4⟩ := CellsAt.c5 HX3.out
        go_wp2_with fail
        refine (p_arm k n HK.out HP3.out).mono ?_
        rintro e w4 ⟨M1, e1, hr1, rfl, hP, hg⟩
        have HX4 := Lib.hid (HX3.out.grownX hg (by omega))
        have HP4 := Lib.hid hP
        have HR2 := Lib.hid hr1
        clear hP hg hr1 HP3 HX3 c0 c1 c2 c3 c4
        obtain ⟨c0, c1, c2, c3, c4⟩ := CellsAt.c5 HX4.out
        go_wp2_with fail
        refine (r_arm k n HK.out hL HO.out HP4.out).mono ?_
        rintro e w5 ⟨v', M2, e2, hr2, hO2, rfl, hP⟩
        obtain ⟨rfl, hperm⟩ := ArRel.uniq HR2.out hr2
        have HPE := Lib.hid (hP.perm hperm)
        have HOE := Lib.hid hO2
        clear hP hr2 hO2 hperm HP4 HX4 HR2 c0 c1 c2 c3 c4
        obtain ⟨A5, cp5, e5, _⟩ := HPE.out.sees.form
        subst e5
        go_wp2_with fail
        refine (p_next (List.Perm.refl _) HOE.out HPE.out).mono ?_
        rintro e wN ⟨hcase, hP⟩
        have HPN := Lib.hid hP
        obtain ⟨AN, cN, eN, hN1, hN2⟩ := hP.sees.form
        clear hP HPE
        simp only [Value.slice.injEq] at eN
        obtain ⟨rfl, _, rfl⟩ := eN
        rcases hcase with ⟨h0, rfl⟩ | ⟨y, hy, rfl⟩
        · subst h0
          go_wp2_with fail
          refine (p_len HPN.out).mono ?_
          rintro e wL ⟨rfl, hw⟩
          have hw := hw.symm
          subst hw
          go_wp2_with fail
          exact ⟨⟨j + 1, [], by omega, by omega, by go_num, HPN.out, Ord.nil⟩, by simp [intOf]; omega⟩
        · have hpos : 0 < (M2).length := (List.getElem?_eq_some_iff.1 hy).1
          obtain ⟨gN, oN, rfl, _, _, d0, d1, d2, d3⟩ := HPN.out.sees.at_ hy
          simp only [Nat.zero_mul, Nat.add_zero] at d0
          clear hy d1 d2 d3
          go_wp2_with fail
          refine (p_len HPN.out).mono ?_
          rintro e wL ⟨rfl, hw⟩
          have hw := hw.symm
          subst hw
          go_wp2_with fail
          exact ⟨⟨j + 1, M2, by omega, by omega, by go_num, HPN.out, HOE.out⟩, by simp [intOf]; omega⟩
      by_cases q2 : t = 2
      · subst q2
        go_wp2_with fail
        refine (p_at k HK.out HP1.out).mono ?_
        rintro e w2 ⟨n1, t1, hr1, rfl, hP, hb⟩
        have HX2 := Lib.hid (HX1.out.below hb HX1.out.lt)
        have HP2 := Lib.hid hP
        have HR1 := Lib.hid hr1
        clear hP hb hr1 HP1 HX1 c0 c1 c2 c3 c4
        obtain ⟨c0, c1, c2, c3, c4⟩ := CellsAt.c5 HX2.out
        go_wp2_with fail
        refine (r_at k hL HP2.out).mono ?_
        rintro e w3 ⟨n2, t2, hr2, rfl, hP, hb⟩
        obtain ⟨rfl, rfl⟩ := AtRel.uniq HKEY.out HR1.out hr2
        have HX3 := Lib.hid (HX2.out.below hb HX2.out.lt)
        have HP3 := Lib.hid hP
        clear hP hb hr2 HP2 HX2 c0 c1 c2 c3 c4
        obtain ⟨c0, c1, c2, c3, c4⟩ := CellsAt.c5 HX3.out
        go_wp2_with fail
        have hhad := AtRel.had HR1.out
        refine (p_cancel k HK.out HP3.out).mono ?_
        rintro e w4 ⟨he, hP, hg⟩
        rw [← hhad] at he
        subst he
        have HX4 := Lib.hid (HX3.out.grownX hg (by omega))
        have HP4 := Lib.hid hP
        clear hP hg HP3 HX3 hhad c0 c1 c2 c3 c4
        obtain ⟨c0, c1, c2, c3, c4⟩ := CellsAt.c5 HX4.out
        go_wp2_with fail
        refine (r_cancel k hL HP4.out).mono ?_
        rintro e w5 ⟨v', rfl, hP⟩
        have HPE := Lib.hid hP
        have HOE : Hid (Ord (canT L k)) := HO.out.sub List.filter_sublist
        clear hP HP4 HX4 c0 c1 c2 c3 c4
        obtain ⟨A5, cp5, e5, _⟩ := HPE.out.sees.form
        subst e5
        go_wp2_with fail
        generalize canT L k = LX at HPE HOE ⊢
        refine (p_next (List.Perm.refl _) HOE.out HPE.out).mono ?_
        rintro e wN ⟨hcase, hP⟩
        have HPN := Lib.hid hP
        obtain ⟨AN, cN, eN, hN1, hN2⟩ := hP.sees.form
        clear hP HPE
        simp only [Value.slice.injEq] at eN
        obtain ⟨rfl, _, rfl⟩ := eN
        rcases hcase with ⟨h0, rfl⟩ | ⟨y, hy, rfl⟩
        · subst h0
          go_wp2_with fail
          refine (p_len HPN.out).mono ?_
          rintro e wL ⟨rfl, hw⟩
          have hw := hw.symm
          subst hw
          go_wp2_with fail
          exact ⟨⟨j + 1, [], by omega, by omega, by go_num, HPN.out, Ord.nil⟩, by simp [intOf]; omega⟩
        · have hpos : 0 < (LX).length := (List.getElem?_eq_some_iff.1 hy).1
          obtain ⟨gN, oN, rfl, _, _, d0, d1, d2, d3⟩ := HPN.out.sees.at_ hy
          simp only [Nat.zero_mul, Nat.add_zero] at d0
          clear hy d1 d2 d3
          go_wp2_with fail
          refine (p_len HPN.out).mono ?_
          rintro e wL ⟨rfl, hw⟩
          have hw := hw.symm
          subst hw
          go_wp2_with fail
          exact ⟨⟨j + 1, LX, by omega, by omega, by go_num, HPN.out, HOE.out⟩, by simp [intOf]; omega⟩
      by_cases q3 : t = 3
      · subst q3
        go_wp2_with fail
        refine (p_at k HK.out HP1.out).mono ?_
        rintro e w2 ⟨n1, t1, hr1, rfl, hP, hb⟩
        have HX2 := Lib.hid (HX1.out.below hb HX1.out.lt)
        have HP2 := Lib.hid hP
        have HR1 := Lib.hid hr1
        clear hP hb hr1 HP1 HX1 c0 c1 c2 c3 c4
        obtain ⟨c0, c1, c2, c3, c4⟩ := CellsAt.c5 HX2.out
        go_wp2_with fail
        refine (r_at k hL HP2.out).mono ?_
        rintro e w3 ⟨n2, t2, hr2, rfl, hP, hb⟩
        obtain ⟨rfl, rfl⟩ := AtRel.uniq HKEY.out HR1.out hr2
        have HX3 := Lib.hid (HX2.out.below hb HX2.out.lt)
        have HP3 := Lib.hid hP
        clear hP hb hr2 HP2 HX2 c0 c1 c2 c3 c4
        obtain ⟨c0, c1, c2, c3, c4⟩ := CellsAt.c5 HX3.out
        go_wp2_with fail
        refine (r_take n hn hL HO.out HP3.out).mono ?_
        rintro e w4 ⟨v1, v2, rfl, hs1, hP, hb⟩
        obtain ⟨A1, cp1, e1, _⟩ := hs1.form
        subst e1
        obtain ⟨A2, cp2, e2, _⟩ := hP.sees.form
        subst e2
        have HX4 := Lib.hid (HX3.out.below hb HX3.out.lt)
        have HS1 := Lib.hid hs1
        have HP4 := Lib.hid hP
        clear hP hs1 hb HP3 HX3 c0 c1 c2 c3 c4
        obtain ⟨c0, c1, c2, c3, c4⟩ := CellsAt.c5 HX4.out
        go_wp2_with fail
        refine (p_take n HP4.out).mono ?_
        rintro e w5 ⟨u, O, rfl, ho1, ho2, hs2, hP, hg⟩
        obtain rfl : O = dueL n L := Ord.uniq ho1 (HO.out.due n) ho2
        have HS1' := Lib.hid (HS1.out.grownX hg (fun g hg => by omega))
        obtain ⟨A3, cp3, e3, _⟩ := hs2.form
        subst e3
        have HS2 := Lib.hid hs2
        have HP5 := Lib.hid hP
        have hdl : (dueL n L).length ≤ 1000000 := by
          have h1 : (dueL n L).length ≤ L.length := List.length_filter_le _ _
          omega
        clear ho1 ho2 hs2 hP hg HS1 HP4 HX4 c0 c1 c2 c3 c4
        go_wp2_with fail
        refine (rsame_any (dueL n L) _ _ _ _ _ HS2.out HS1'.out hdl).mono ?_
        rintro e w6 ⟨rfl, hb⟩
        have HPE := Lib.hid (HP5.out.mem hb)
        have HOE := Lib.hid (HO.out.rest n)
        clear hb HP5 HS2 HS1' hdl
        go_wp2_with fail
        generalize restL n L = LX at HPE HOE ⊢
        refine (p_next (List.Perm.refl _) HOE.out HPE.out).mono ?_
        rintro e wN ⟨hcase, hP⟩
        have HPN := Lib.hid hP
        obtain ⟨AN, cN, eN, hN1, hN2⟩ := hP.sees.form
        clear hP HPE
        simp only [Value.slice.injEq] at eN
        obtain ⟨rfl, _, rfl⟩ := eN
        rcases hcase with ⟨h0, rfl⟩ | ⟨y, hy, rfl⟩
        · subst h0
          go_wp2_with fail
          refine (p_len HPN.out).mono ?_
          rintro e wL ⟨rfl, hw⟩
          have hw := hw.symm
          subst hw
          go_wp2_with fail
          exact ⟨⟨j + 1, [], by omega, by omega, by go_num, HPN.out, Ord.nil⟩, by simp [intOf]; omega⟩
        · have hpos : 0 < (LX).length := (List.getElem?_eq_some_iff.1 hy).1
          obtain ⟨gN, oN, rfl, _, _, d0, d1, d2, d3⟩ := HPN.out.sees.at_ hy
          simp only [Nat.zero_mul, Nat.add_zero] at d0
          clear hy d1 d2 d3
          go_wp2_with fail
          refine (p_len HPN.out).mono ?_
          rintro e wL ⟨rfl, hw⟩
          have hw := hw.symm
          subst hw
          go_wp2_with fail
          exact ⟨⟨j + 1, LX, by omega, by omega, by go_num, HPN.out, HOE.out⟩, by simp [intOf]; omega⟩
      have s0 : (t == 0) = false := by rw [beq_eq_false_iff_ne]; exact q0
      have s1 : (t == 1) = false := by rw [beq_eq_false_iff_ne]; exact q1
      have s2 : (t == 2) = false := by rw [beq_eq_false_iff_ne]; exact q2
      have s3 : (t == 3) = false := by rw [beq_eq_false_iff_ne]; exact q3
      clear q0 q1 q2 q3
      go_wp2_with fail
      refine (p_at k HK.out HP1.out).mono ?_
      rintro e w2 ⟨n1, t1, hr1, rfl, hP, hb⟩
      have HX2 := Lib.hid (HX1.out.below hb HX1.out.lt)
      have HP2 := Lib.hid hP
      have HR1 := Lib.hid hr1
      clear hP hb hr1 HP1 HX1 c0 c1 c2 c3 c4
      obtain ⟨c0, c1, c2, c3, c4⟩ := CellsAt.c5 HX2.out
      go_wp2_with fail
      refine (r_at k hL HP2.out).mono ?_
      rintro e w3 ⟨n2, t2, hr2, rfl, hP, hb⟩
      obtain ⟨rfl, rfl⟩ := AtRel.uniq HKEY.out HR1.out hr2
      have HX3 := Lib.hid (HX2.out.below hb HX2.out.lt)
      have HP3 := Lib.hid hP
      clear hP hb hr2 HP2 HX2 c0 c1 c2 c3 c4
      obtain ⟨c0, c1, c2, c3, c4⟩ := CellsAt.c5 HX3.out
      go_wp2_with fail
      refine (r_drop k.peer hL HP3.out).mono ?_
      rintro e w4 ⟨⟨v', rfl, hP⟩, hb⟩
      have HX4 := Lib.hid (HX3.out.below hb HX3.out.lt)
      have HP4 := Lib.hid hP
      obtain ⟨A1, cp1, e1, _⟩ := hP.sees.form
      subst e1
      clear hP hb HP3 HX3 c0 c1 c2 c3 c4
      obtain ⟨c0, c1, c2, c3, c4⟩ := CellsAt.c5 HX4.out
      go_wp2_with fail
      refine (p_drop k.peer HP4.out).mono ?_
      rintro e w5 ⟨cc, hcc, rfl, hP⟩
      have hle : (peerL L k.peer).length ≤ L.length := List.length_filter_le _ _
      have hsub : (L.length : Int) - ((peerL L k.peer).length : Int) = (cc : Int) := by omega
      have HPE := Lib.hid hP
      have HOE : Hid (Ord (peerL L k.peer)) := HO.out.sub List.filter_sublist
      clear hP HP4 HX4 hcc c0 c1 c2 c3 c4
      go_wp2_with fail
      clear hsub hle
      generalize peerL L k.peer = LX at HPE HOE ⊢
      refine (p_next (List.Perm.refl _) HOE.out HPE.out).mono ?_
      rintro e wN ⟨hcase, hP⟩
      have HPN := Lib.hid hP
      obtain ⟨AN, cN, eN, hN1, hN2⟩ := hP.sees.form
      clear hP HPE
      simp only [Value.slice.injEq] at eN
      obtain ⟨rfl, _, rfl⟩ := eN
      rcases hcase with ⟨h0, rfl⟩ | ⟨y, hy, rfl⟩
      · subst h0
        go_wp2_with fail
        refine (p_len HPN.out).mono ?_
        rintro e wL ⟨rfl, hw⟩
        have hw := hw.symm
        subst hw
        go_wp2_with fail
        exact ⟨⟨j + 1, [], by omega, by omega, by go_num, HPN.out, Ord.nil⟩, by simp [intOf]; omega⟩
      · have hpos : 0 < (LX).length := (List.getElem?_eq_some_iff.1 hy).1
        obtain ⟨gN, oN, rfl, _, _, d0, d1, d2, d3⟩ := HPN.out.sees.at_ hy
        simp only [Nat.zero_mul, Nat.add_zero] at d0
        clear hy d1 d2 d3
        go_wp2_with fail
        refine (p_len HPN.out).mono ?_
        rintro e wL ⟨rfl, hw⟩
        have hw := hw.symm
        subst hw
        go_wp2_with fail
        exact ⟨⟨j + 1, LX, by omega, by omega, by go_num, HPN.out, HOE.out⟩, by simp [intOf]; omega⟩
    · have hend : len ≤ j ∨ j = 80 := by omega
      have hlt3 : ¬ (j < len ∧ j < 80) := hlt
      clear hlt hlt3
      have HOWN := Lib.hid (fun g (hg : (Value.slice A2 L.length cp2).ownBlock = some g) (hl : 0 < L.length) => (by obtain ⟨A', c', e, _, _, _, _, h5⟩ := HP.out.sees.ex; simp only [Value.slice.injEq] at e; obtain ⟨rfl, _, _⟩ := e; obtain ⟨g', off, rfl, _, h8, _⟩ := h5 hl; simp [Value.ownBlock] at hg; omega : g < wr.heap.size))
      rcases hend with hend | rfl
      · go_wp2_with fail
        obtain ⟨S, hs1, hs2⟩ := HP.out.wh
        have HS := Lib.hid hs1
        have HSP := Lib.hid hs2
        clear hs1 hs2
        refine (wcopy_any _ _ _ S HS.out).mono ?_
        rintro e w2 ⟨S2, hp2, rfl, hw2, hb⟩
        have HP2 := Lib.hid (HP.out.mem hb)
        have HW2 := Lib.hid hw2
        have HSP2 := Lib.hid (hp2.trans HSP.out)
        have z2 : wr.heap.size ≤ w2.heap.size := hb.size
        have HTL := Lib.hid hw2.ok
        clear hp2 hw2 hb HS HSP
        go_wp2_with fail
        refine (wtake_any _ _ _ 1099511627776 S2 HW2.out).mono ?_
        rintro e w3 ⟨u, O, K, rfl, ho1, ho2, hwk, hkk, hf, hg⟩
        have hO : O = L := Ord.uniq ho1 HO.out ((ho2.trans (List.Perm.of_eq (List.filter_eq_self.2 fun p hp => by have := (HTL.out p hp).2; simp [dueF]; omega))).trans HSP2.out)
        have hK : K = [] := by
          have h1 : (S2.filter fun x => !dueF 1099511627776 x) = [] := List.filter_eq_nil_iff.2 (fun p hp => by have := (HTL.out p hp).2; simp [dueF]; omega)
          rw [h1] at hkk
          exact hkk.eq_nil
        subst hO
        subst hK
        have HW3 := Lib.hid hwk
        have HP3 : Hid (PW w w3 O (.slice A2 O.length cp2) O) := by
          obtain ⟨S', h1, h2⟩ := HP2.out.wh
          exact ⟨⟨S', h1.grownX hg (by omega) (by omega), h2⟩, HP2.out.sees.keep2 (fun g h1 h2 h3 h4 => hg.block g h2 (fun e => by have := HOWN.out g h3 h4; omega)) hg.size, hg.below HP2.out.below (fun i hi => by omega) HP2.out.below.size, Nat.le_trans HP2.out.size hg.size⟩
        have HF3 := Lib.hid (Sees.of_own hf)
        clear ho1 ho2 hwk hkk hf hg HP2 HW2 HSP2 HTL
        obtain ⟨A3, cp3, e3, _⟩ := HF3.out.form
        subst e3
        go_wp2_with fail
        refine (rsame_any O _ _ _ _ _ HF3.out HP3.out.sees (by omega)).mono ?_
        rintro e w4 ⟨rfl, hb⟩
        have HP4 := Lib.hid (HP3.out.mem hb)
        have HW4 := Lib.hid (HW3.out.below hb (Nat.le_refl _))
        clear hb HP3 HW3 HF3
        go_wp2_with fail
        refine (wlen_any _ _ _ _ HW4.out).mono ?_
        rintro e w5 ⟨rfl, hw⟩
        have hw := hw.symm
        subst hw
        go_wp2_with fail
        refine (p_len HP4.out).mono ?_
        rintro e w5 ⟨rfl, hw⟩
        have hw := hw.symm
        subst hw
        go_wp2_with fail
        refine (works_any _).mono ?_
        rintro e w6 ⟨rfl, hb⟩
        have HEB := Lib.hid (HP4.out.below.trans (hb.mono HP4.out.below.size))
        clear hb
        go_wp2_with fail
        go_ret
        exact ⟨rfl, HEB.out⟩
      · by_cases h80 : 80 < len
        · go_wp2_with fail
          obtain ⟨S, hs1, hs2⟩ := HP.out.wh
          have HS := Lib.hid hs1
          have HSP := Lib.hid hs2
          clear hs1 hs2
          refine (wcopy_any _ _ _ S HS.out).mono ?_
          rintro e w2 ⟨S2, hp2, rfl, hw2, hb⟩
          have HP2 := Lib.hid (HP.out.mem hb)
          have HW2 := Lib.hid hw2
          have HSP2 := Lib.hid (hp2.trans HSP.out)
          have z2 : wr.heap.size ≤ w2.heap.size := hb.size
          have HTL := Lib.hid hw2.ok
          clear hp2 hw2 hb HS HSP
          go_wp2_with fail
          refine (wtake_any _ _ _ 1099511627776 S2 HW2.out).mono ?_
          rintro e w3 ⟨u, O, K, rfl, ho1, ho2, hwk, hkk, hf, hg⟩
          have hO : O = L := Ord.uniq ho1 HO.out ((ho2.trans (List.Perm.of_eq (List.filter_eq_self.2 fun p hp => by have := (HTL.out p hp).2; simp [dueF]; omega))).trans HSP2.out)
          have hK : K = [] := by
            have h1 : (S2.filter fun x => !dueF 1099511627776 x) = [] := List.filter_eq_nil_iff.2 (fun p hp => by have := (HTL.out p hp).2; simp [dueF]; omega)
            rw [h1] at hkk
            exact hkk.eq_nil
          subst hO
          subst hK
          have HW3 := Lib.hid hwk
          have HP3 : Hid (PW w w3 O (.slice A2 O.length cp2) O) := by
            obtain ⟨S', h1, h2⟩ := HP2.out.wh
            exact ⟨⟨S', h1.grownX hg (by omega) (by omega), h2⟩, HP2.out.sees.keep2 (fun g h1 h2 h3 h4 => hg.block g h2 (fun e => by have := HOWN.out g h3 h4; omega)) hg.size, hg.below HP2.out.below (fun i hi => by omega) HP2.out.below.size, Nat.le_trans HP2.out.size hg.size⟩
          have HF3 := Lib.hid (Sees.of_own hf)
          clear ho1 ho2 hwk hkk hf hg HP2 HW2 HSP2 HTL
          obtain ⟨A3, cp3, e3, _⟩ := HF3.out.form
          subst e3
          go_wp2_with fail
          refine (rsame_any O _ _ _ _ _ HF3.out HP3.out.sees (by omega)).mono ?_
          rintro e w4 ⟨rfl, hb⟩
          have HP4 := Lib.hid (HP3.out.mem hb)
          have HW4 := Lib.hid (HW3.out.below hb (Nat.le_refl _))
          clear hb HP3 HW3 HF3
          go_wp2_with fail
          refine (wlen_any _ _ _ _ HW4.out).mono ?_
          rintro e w5 ⟨rfl, hw⟩
          have hw := hw.symm
          subst hw
          go_wp2_with fail
          refine (p_len HP4.out).mono ?_
          rintro e w5 ⟨rfl, hw⟩
          have hw := hw.symm
          subst hw
          go_wp2_with fail
          refine (works_any _).mono ?_
          rintro e w6 ⟨rfl, hb⟩
          have HEB := Lib.hid (HP4.out.below.trans (hb.mono HP4.out.below.size))
          clear hb
          go_wp2_with fail
          go_ret
          exact ⟨rfl, HEB.out⟩
        · go_wp2_with fail
          obtain ⟨S, hs1, hs2⟩ := HP.out.wh
          have HS := Lib.hid hs1
          have HSP := Lib.hid hs2
          clear hs1 hs2
          refine (wcopy_any _ _ _ S HS.out).mono ?_
          rintro e w2 ⟨S2, hp2, rfl, hw2, hb⟩
          have HP2 := Lib.hid (HP.out.mem hb)
          have HW2 := Lib.hid hw2
          have HSP2 := Lib.hid (hp2.trans HSP.out)
          have z2 : wr.heap.size ≤ w2.heap.size := hb.size
          have HTL := Lib.hid hw2.ok
          clear hp2 hw2 hb HS HSP
          go_wp2_with fail
          refine (wtake_any _ _ _ 1099511627776 S2 HW2.out).mono ?_
          rintro e w3 ⟨u, O, K, rfl, ho1, ho2, hwk, hkk, hf, hg⟩
          have hO : O = L := Ord.uniq ho1 HO.out ((ho2.trans (List.Perm.of_eq (List.filter_eq_self.2 fun p hp => by have := (HTL.out p hp).2; simp [dueF]; omega))).trans HSP2.out)
          have hK : K = [] := by
            have h1 : (S2.filter fun x => !dueF 1099511627776 x) = [] := List.filter_eq_nil_iff.2 (fun p hp => by have := (HTL.out p hp).2; simp [dueF]; omega)
            rw [h1] at hkk
            exact hkk.eq_nil
          subst hO
          subst hK
          have HW3 := Lib.hid hwk
          have HP3 : Hid (PW w w3 O (.slice A2 O.length cp2) O) := by
            obtain ⟨S', h1, h2⟩ := HP2.out.wh
            exact ⟨⟨S', h1.grownX hg (by omega) (by omega), h2⟩, HP2.out.sees.keep2 (fun g h1 h2 h3 h4 => hg.block g h2 (fun e => by have := HOWN.out g h3 h4; omega)) hg.size, hg.below HP2.out.below (fun i hi => by omega) HP2.out.below.size, Nat.le_trans HP2.out.size hg.size⟩
          have HF3 := Lib.hid (Sees.of_own hf)
          clear ho1 ho2 hwk hkk hf hg HP2 HW2 HSP2 HTL
          obtain ⟨A3, cp3, e3, _⟩ := HF3.out.form
          subst e3
          go_wp2_with fail
          refine (rsame_any O _ _ _ _ _ HF3.out HP3.out.sees (by omega)).mono ?_
          rintro e w4 ⟨rfl, hb⟩
          have HP4 := Lib.hid (HP3.out.mem hb)
          have HW4 := Lib.hid (HW3.out.below hb (Nat.le_refl _))
          clear hb HP3 HW3 HF3
          go_wp2_with fail
          refine (wlen_any _ _ _ _ HW4.out).mono ?_
          rintro e w5 ⟨rfl, hw⟩
          have hw := hw.symm
          subst hw
          go_wp2_with fail
          refine (p_len HP4.out).mono ?_
          rintro e w5 ⟨rfl, hw⟩
          have hw := hw.symm
          subst hw
          go_wp2_with fail
          refine (works_any _).mono ?_
          rintro e w6 ⟨rfl, hb⟩
          have HEB := Lib.hid (HP4.out.below.trans (hb.mono HP4.out.below.size))
          clear hb
          go_wp2_with fail
          go_ret
          exact ⟨rfl, HEB.out⟩

end Go.Proofs.Ytcgegaahdbnacaa
