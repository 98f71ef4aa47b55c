/-
  WheelOrder: for all timers by small numbers the law answers true. Conditions: none of its own.
-/
import Derived.Test.YtcgegaahdbnacaaWhK
import Derived.Test.YtcgegaahdbnacaaOpenAny
set_option linter.unusedVariables false
set_option linter.unusedSimpArgs false
namespace Go.Proofs.Ytcgegaahdbnacaa
open Go.RowKit Go.MapKept Go.Shelf Go.Lib
open Go.Maps (Keyed)
open Go.ChangeShapes Go.WideShapes Go.ChangeAt

theorem OwnM.grownX {X : Nat → Prop} {w w' : World} {base n size : Nat} {e : TypeId} {v : Value} {xs : List Value} (h : OwnM w base e size v n xs) (hg : GrownX X w w') (hx : ∀ g, v.ownBlock = some g → ¬ X g) : OwnM w' base e size v n xs :=
  h.keep fun k hk => hg.block k (h.lt k hk).2 (hx k hk)
theorem FiredAt.cs {w : World} {base g cap i : Nat} {l : List Tm} {x : Tm} (h : FiredAt w base (.slice (some ⟨g, 0, none⟩) l.length cap) l) (hi : l[i]? = some x) :
    w.cell? ⟨g, i * 4, none⟩ = some (.int .u64 (x.at_ : Nat)) ∧ w.cell? ⟨g, i * 4 + 1, none⟩ = some (.int .i64 x.k.kind) ∧ w.cell? ⟨g, i * 4 + 2, none⟩ = some (.string x.k.peer) ∧ w.cell? ⟨g, i * 4 + 3, none⟩ = some (.int .i64 x.k.fam) := by
  obtain ⟨g1, c1, e1, _, _, _, _, _, a⟩ := h.at_ hi
  simp only [Value.slice.injEq, Option.some.injEq, Addr.mk.injEq] at e1
  obtain ⟨⟨rfl, _⟩, _, _⟩ := e1
  exact a
/-- tick by tick -/
def ltL (t : Nat) (l : List Tm) : List Tm := l.filter fun x => decide (x.at_ < t)
def geL (t : Nat) (l : List Tm) : List Tm := l.filter fun x => !decide (x.at_ < t)
theorem tick {S Z K O : List Tm} {t : Nat} (hZ : Ord Z) (hZp : Z.Perm (ltL t S)) (hK : K.Perm (geL t S)) (hO : Ord O) (hOp : O.Perm (K.filter (dueF t))) :
    Ord (Z ++ O) ∧ (Z ++ O).Perm (ltL (t + 1) S) := by
  have hOm : ∀ p ∈ O, p.at_ = t := fun p hp => by
    obtain ⟨h1, h2⟩ := List.mem_filter.1 (hOp.mem_iff.1 hp)
    obtain ⟨_, h3⟩ := List.mem_filter.1 (hK.mem_iff.1 h1)
    simp [dueF] at h2 h3
    omega
  refine ⟨List.pairwise_append.2 ⟨hZ, hO, fun a ha b hb => ?_⟩, ?_⟩
  · obtain ⟨_, h1⟩ := List.mem_filter.1 (hZp.mem_iff.1 ha)
    have h2 := hOm b hb
    simp at h1
    simp [tlt]
    exact Or.inl (by omega)
  · have h1 : O.Perm ((geL t S).filter (dueF t)) := hOp.trans (hK.filter _)
    refine (hZp.append h1).trans ?_
    have h2 : (ltL (t + 1) S).Perm ((ltL (t + 1) S).filter (fun x => decide (x.at_ < t)) ++ (ltL (t + 1) S).filter (fun x => !decide (x.at_ < t))) := (List.filter_append_perm _ _).symm
    refine List.Perm.trans (List.Perm.of_eq ?_) h2.symm
    unfold ltL geL
    rw [List.filter_filter, List.filter_filter, List.filter_filter]
    congr 1
    · refine List.filter_congr fun x _ => ?_
      by_cases h : x.at_ < t <;> simp [h]
      omega
    · refine List.filter_congr fun x _ => ?_
      by_cases h : x.at_ < t <;> simp [h, dueF]
      omega
theorem tick_rest {S K K' : List Tm} {t : Nat} (hK : K.Perm (geL t S)) (hK' : K'.Perm (K.filter fun x => !dueF t x)) : K'.Perm (geL (t + 1) S) := by
  refine hK'.trans ((hK.filter _).trans (List.Perm.of_eq ?_))
  unfold geL
  rw [List.filter_filter]
  refine List.filter_congr fun x _ => ?_
  by_cases h : x.at_ < t + 1
  · have h2 : x.at_ ≤ t := by omega
    simp [h, dueF, h2]
  · have h2 : ¬ x.at_ ≤ t := by omega
    have h3 : ¬ x.at_ < t := by omega
    simp [h, dueF, h2, h3]
theorem ltL_all {S : List Tm} {t : Nat} (h : ∀ p ∈ S, p.at_ < t) : ltL t S = S ∧ geL t S = [] :=
  ⟨List.filter_eq_self.2 (fun p hp => by simpa using h p hp), List.filter_eq_nil_iff.2 (fun p hp => by have := h p hp; simp; omega)⟩
theorem fillT_at : ∀ X : List SetV, (∀ s ∈ X, s.at_ < 256) → ∀ p ∈ fillT (X.map SetV.tm), p.at_ < 256
  | [], _, p, hp => by simp [fillT] at hp
  | s :: X, h, p, hp => by
    have ih := fillT_at X (fun t ht => h t (List.mem_cons_of_mem _ ht)) p
    by_cases hin : ∃ p ∈ fillT (X.map SetV.tm), p.k = s.tm.k
    · rw [List.map_cons, fillT_in hin] at hp
      exact ih hp
    · rw [List.map_cons, fillT_out (fun p hp e => hin ⟨p, hp, e⟩)] at hp
      rcases List.mem_append.1 hp with hp | hp
      · exact ih hp
      · rw [List.mem_singleton] at hp
        subst hp
        exact h s (List.mem_cons_self ..)

set_option maxRecDepth 100000 in
set_option maxHeartbeats 8000000 in
theorem wheelOrder_walk (A : Option Addr) (len cap : Nat) (X : List SetV) (w : World) (h : SetsIn w A len cap X) :
    Calls Try.prog 3 #[.slice A len cap] w fun e w' => e = .returned (.bool true) ∧ Below w.heap.size w w' := by
  have hall : ∀ p ∈ fillT ((X.take (min X.length 60)).map SetV.tm), p.at_ < 256 := fillT_at _ (fun s hs => by
    obtain ⟨i, hi⟩ := List.getElem?_of_mem (List.mem_of_mem_take hs)
    obtain ⟨_, _, _, _, h3, _⟩ := h.at_ i s hi
    exact h3.at_)
  have HALL := Lib.hid hall
  have HS := Lib.hid h
  have hm1 := h.cap1
  have hm2 := h.cap2
  unfold maxLen at hm2
  clear h hall
  generalize hG : fillT ((X.take (min X.length 60)).map SetV.tm) = G at HALL
  have HG := Lib.hid hG
  clear hG
  go_enter Try.func3, Try.ntmps3
  go_wp2_with fail
  refine (filled_no A len cap X _ HS.out).mono ?_
  rintro e w1 ⟨ba, ma, Sa, rfl, ha, hpa, lw0, lw1, hb⟩
  have HA1 := Lib.hid ha
  have HPA := Lib.hid hpa
  have HS1 := Lib.hid (HS.out.below hb)
  have HB1 := Lib.hid hb
  obtain ⟨la1, la2⟩ := ha.lt
  clear ha hpa hb
  go_wp2_with fail
  refine (filled_yes A len cap X _ HS1.out).mono ?_
  rintro e w2 ⟨bb, mb, Sb, rfl, hbw, hpb, lb1, lb2, hb⟩
  have HA2 := Lib.hid (HA1.out.below hb (Nat.le_refl _))
  have HW2 := Lib.hid hbw
  have HPB := Lib.hid hpb
  have HS2 := Lib.hid (HS1.out.below hb)
  have HB2 := Lib.hid (HB1.out.trans (hb.mono HB1.out.size))
  have z12 : w1.heap.size ≤ w2.heap.size := hb.size
  obtain ⟨lb3, lb4⟩ := hbw.lt
  clear hbw hpb hb HA1 HS1 HB1
  go_wp2_with fail
  refine (filled_no A len cap X _ HS2.out).mono ?_
  rintro e w3 ⟨bc, mc, Sc, rfl, hcw, hpc, lc1, lc2, hb⟩
  have HA3 := Lib.hid (HA2.out.below hb (Nat.le_refl _))
  have HW3 := Lib.hid (HW2.out.below hb (Nat.le_refl _))
  have HC3 := Lib.hid hcw
  have HPC := Lib.hid hpc
  have HB3 := Lib.hid (HB2.out.trans (hb.mono HB2.out.size))
  have z23 : w2.heap.size ≤ w3.heap.size := hb.size
  have z03 : w.heap.size ≤ w3.heap.size := HB3.out.size
  have z02 : w.heap.size ≤ w2.heap.size := HB2.out.size
  obtain ⟨lc3, lc4⟩ := hcw.lt
  have HC5l := hcw.len
  clear hcw hpc hb HA2 HW2 HB2 HS2
  rw [HG.out] at HPA HPB HPC
  go_wp2_with fail
  refine (wtake_any _ ba ma 255 Sa HA3.out).mono ?_
  rintro e w4 ⟨vx, O, Ka, rfl, ho1, ho2, hwa, hka, hfx, hg⟩
  have hO1 : O.Perm G := by
    refine (ho2.trans (HPA.out.filter _)).trans (List.Perm.of_eq (List.filter_eq_self.2 fun p hp => ?_))
    have := HALL.out p hp
    simp [dueF]
    omega
  have hKa : Ka = [] := by
    have h1 : (Sa.filter fun x => !dueF 255 x) = [] := List.filter_eq_nil_iff.2 (fun p hp => by
      have := HALL.out p (HPA.out.mem_iff.1 hp)
      simp [dueF]
      omega)
    rw [h1] at hka
    exact hka.eq_nil
  subst hKa
  have HO := Lib.hid ho1
  have HOP := Lib.hid hO1
  have HX4 := Lib.hid hfx
  have HA4 := Lib.hid hwa
  have HW4 := Lib.hid (HW3.out.grownX hg (by omega) (by omega))
  have HC4 := Lib.hid (HC3.out.grownX hg (by omega) (by omega))
  have HB4 : Hid (Below w.heap.size w w4) := hg.below HB3.out (fun i hi => by omega) z03
  have z34 : w3.heap.size ≤ w4.heap.size := hg.size
  clear ho1 ho2 hwa hka hfx hg hO1 HA3 HW3 HC3 HB3
  go_wp2_with fail
  refine (wtake_any _ bb mb 255 Sb HW4.out).mono ?_
  rintro e w5 ⟨vy, O', Kb, rfl, ho1, ho2, hwb, hkb, hfy, hg⟩
  have hO1 : O'.Perm G := by
    refine (ho2.trans (HPB.out.filter _)).trans (List.Perm.of_eq (List.filter_eq_self.2 fun p hp => ?_))
    have := HALL.out p hp
    simp [dueF]
    omega
  obtain rfl : O' = O := Ord.uniq ho1 HO.out (hO1.trans HOP.out.symm)
  have HX5 : Hid (FiredAt w5 w3.heap.size vx O') := OwnM.grownX HX4.out hg (fun g h1 e => by have := (HX4.out.lt g h1).1; omega)
  have HY5 := Lib.hid hfy
  have HA5 := Lib.hid (HA4.out.grownX hg (by omega) (by omega))
  have HC5 := Lib.hid (HC4.out.grownX hg (by omega) (by omega))
  have HB5 : Hid (Below w.heap.size w w5) := hg.below HB4.out (fun i hi => by omega) HB4.out.size
  have z45 : w4.heap.size ≤ w5.heap.size := hg.size
  clear ho1 ho2 hwb hkb hfy hg hO1 HX4 HA4 HC4 HB4 HW4
  obtain ⟨i0, hi0, hz0, hz1, hz2⟩ := info_parts infoFired
  go_wp2_with fail
  go_loopw [8, 9] (fun u8 t wr => ∃ (n : Nat) (Z K : List Tm), n ≤ 256 ∧ t = .int .u64 n ∧ Hid (FiredAt wr w5.heap.size u8 Z) ∧ Hid (Ord Z) ∧ Hid (Z.Perm (ltL n G)) ∧ Hid (WheelAt wr bc mc K) ∧ Hid (K.Perm (geL n G)) ∧ Hid (GrownX (fun i => i = mc) w5 wr)) (fun _ t _ => 257 - (intOf t).toNat)
  case atStart => exact ⟨0, [], Sc, by omega, rfl, by show OwnM _ _ _ _ _ _ _; exact OwnM.nil _ _ _ _, Ord.nil, by show List.Perm _ _; simp [ltL], HC5.out, by show List.Perm _ _; rw [show geL 0 G = G from List.filter_eq_self.2 (fun p hp => by simp)]; exact HPC.out, GrownX.refl _ _⟩
  case round =>
    obtain ⟨n, Z, K, hn, rfl, HZ, HZO, HZP, HC, HKP, HGR⟩ := hrel
    clear HC5
    by_cases hlt : n < 256
    · have hZl : Z.length ≤ 1024 := by
        have h1 := HZP.out.length_eq
        have h2 : (ltL n G).length ≤ G.length := List.length_filter_le _ _
        have h3 := HPC.out.length_eq
        have h4 := HC5l
        omega
      have z5r : w5.heap.size ≤ wr.heap.size := HGR.out.size
      obtain ⟨A2, cp2, rfl⟩ := OwnM.form HZ.out
      go_wp2_with fail
      refine (wtake_any _ bc mc n K HC.out).mono ?_
      rintro e w6 ⟨vo, Q, K', rfl, hq1, hq2, hwc, hkc, hfq, hg⟩
      obtain ⟨hto, htp⟩ := tick HZO.out HZP.out HKP.out hq1 hq2
      have hZ6 : FiredAt w6 w5.heap.size (.slice A2 Z.length cp2) Z := OwnM.grownX HZ.out hg (fun g h1 e => by have := (HZ.out.lt g h1).1; omega)
      have hQl : Q.length ≤ 1024 := by
        have h1 := hq2.length_eq
        have h2 : (K.filter (dueF n)).length ≤ K.length := List.length_filter_le _ _
        have h3 := HC.out.len
        omega
      have HZ6 := Lib.hid hZ6
      have HQ6 := Lib.hid (OwnM.lower hfq (b := w5.heap.size) z5r)
      have HTO := Lib.hid hto
      have HTP := Lib.hid htp
      have HC6 := Lib.hid hwc
      have HK6 := Lib.hid (tick_rest HKP.out hkc)
      have HG6 := Lib.hid (HGR.out.trans hg)
      have z56 : w5.heap.size ≤ w6.heap.size := HG6.out.size
      obtain ⟨A3, cp3, rfl⟩ := OwnM.form hfq
      clear hq1 hq2 hwc hkc hfq hg hto htp hZ6 HZ HZO HZP HC HKP HGR
      go_wp2_with (at_builtin; refine wpList_append_m rfl (.tmp 35) (.tmp 38) 25 25 rfl w5.heap.size 32 i0 _ 4 40 Try.underlying25 hi0 hz0 hz1 hz2 rfl ?b0 _ Z.length (flatT Z) rfl HZ6.out _ Q.length (flatT Q) rfl ?b2 ?b3 ?b4 ?b5 ?b6)
      case b0 => omega
      case b2 => exact Src.own Try.underlying25 HQ6.out (flatT_one Q)
      case b3 => (unfold maxLen; omega)
      case b4 => omega
      case b5 => exact z56
      intro v' w7 hown hgr hat
      have hX7 : GrownX (fun i => (Value.slice A2 Z.length cp2).ownBlock = some i) w6 w7 := ⟨hgr.os, hgr.tape, hgr.output, hgr.size, fun i hi hx => hgr.block i hi (fun e => hx e.symm)⟩
      have HZ7 : Hid (FiredAt w7 w5.heap.size v' (Z ++ Q)) := by
        show OwnM _ _ _ _ _ _ _
        rw [flatT_append, List.length_append]
        exact hown
      have hnb := fun g (hg : (Value.slice A2 Z.length cp2).ownBlock = some g) => (HZ6.out.lt g hg).1
      have HC7 := Lib.hid (HC6.out.grownX hX7 (fun e => by have := hnb _ e; omega) (fun e => by have := hnb _ e; omega))
      have HG7 := Lib.hid (HG6.out.new_ hX7 (fun i hi => hnb i hi))
      clear hown hgr hat hX7 hnb
      go_wp2_with fail
      exact ⟨⟨n + 1, Z ++ Q, K', by omega, by go_num, HZ7.out, HTO.out, HTP.out, HC7.out, HK6.out, HG7.out⟩, by simp [intOf]; omega⟩
    · obtain rfl : n = 256 := by omega
      obtain ⟨hl1, hl2⟩ := ltL_all HALL.out
      rw [hl1] at HZP
      rw [hl2] at HKP
      obtain rfl : Z = O' := Ord.uniq HZO.out HO.out (HZP.out.trans HOP.out.symm)
      have hK0 : K = [] := HKP.out.eq_nil
      subst hK0
      have hx : ∀ g, vx.ownBlock = some g → ¬ g = mc := fun g h1 e => by have := (HX5.out.lt g h1).1; omega
      have hy : ∀ g, vy.ownBlock = some g → ¬ g = mc := fun g h1 e => by have := (HY5.out.lt g h1).1; omega
      have HX := Lib.hid (OwnM.grownX HX5.out HGR.out hx)
      have HY := Lib.hid (OwnM.grownX HY5.out HGR.out hy)
      have HA := Lib.hid (HA5.out.grownX HGR.out (by omega) (by omega))
      have HBB : Hid (Below w.heap.size w wr) := HGR.out.below HB5.out (fun i hi => by omega) HB5.out.size
      have hOl : Z.length ≤ 1024 := by
        have h1 := HOP.out.length_eq
        have h3 := HPC.out.length_eq
        have h4 := HC5l
        omega
      clear hl1 hl2 HZP HKP HGR hx hy HX5 HY5 HA5 HB5 HZO
      obtain ⟨Ax, cx, rfl⟩ := OwnM.form HX.out
      obtain ⟨Ay, cy, rfl⟩ := OwnM.form HY.out
      obtain ⟨Az, cz, rfl⟩ := OwnM.form HZ.out
      go_wp2_with fail
      refine (wlen_any _ _ _ _ HA.out).mono ?_
      rintro e w6 ⟨rfl, hw⟩
      have hw := hw.symm
      subst hw
      go_wp2_with fail
      refine (wlen_any _ _ _ _ HC.out).mono ?_
      rintro e w6 ⟨rfl, hw⟩
      have hw := hw.symm
      subst hw
      go_wp2_with fail
      clear HA HC
      go_loopw [10] (fun x wr => ∃ j : Nat, j ≤ Z.length ∧ x = .int .i64 j ∧ Hid (FiredAt wr w3.heap.size (.slice Ax Z.length cx) Z) ∧ Hid (FiredAt wr w4.heap.size (.slice Ay Z.length cy) Z) ∧ Hid (FiredAt wr w5.heap.size (.slice Az Z.length cz) Z) ∧ Hid (Below w.heap.size w wr)) (fun x _ => Z.length + 1 - (intOf x).toNat)
      case atStart => exact ⟨0, by omega, rfl, HX.out, HY.out, HZ.out, HBB.out⟩
      case round =>
        obtain ⟨j, hj, rfl, HX2, HY2, HZ2, HB2⟩ := hrel
        clear HX HY HZ HBB
        by_cases hlt2 : j < Z.length
        · obtain ⟨x, hoi⟩ : ∃ x, Z[j]? = some x := ⟨Z[j], List.getElem?_eq_getElem hlt2⟩
          obtain ⟨gx, cx', ex, _⟩ := FiredAt.at_ HX2.out hoi
          obtain ⟨gy, cy', ey, _⟩ := FiredAt.at_ HY2.out hoi
          obtain ⟨gz, cz', ez, _⟩ := FiredAt.at_ HZ2.out hoi
          simp only [Value.slice.injEq] at ex ey ez
          obtain ⟨rfl, _, rfl⟩ := ex
          obtain ⟨rfl, _, rfl⟩ := ey
          obtain ⟨rfl, _, rfl⟩ := ez
          have hst : FiredAt wr.drew w3.heap.size (.slice (some ⟨gx, 0, none⟩) Z.length cx) Z ∧ FiredAt wr.drew w4.heap.size (.slice (some ⟨gy, 0, none⟩) Z.length cy) Z ∧ FiredAt wr.drew w5.heap.size (.slice (some ⟨gz, 0, none⟩) Z.length cz) Z ∧ Below w.heap.size w wr.drew := ⟨HX2.out, HY2.out, HZ2.out, below_drewN HB2.out 1⟩
          clear HX2 HY2 HZ2 HB2
          by_cases hj0 : j = 0
          · subst hj0
            go_wp2_with fail
            refine wp_region_held_drew (S := fun w' => FiredAt w' w3.heap.size (.slice (some ⟨gx, 0, none⟩) Z.length cx) Z ∧ FiredAt w' w4.heap.size (.slice (some ⟨gy, 0, none⟩) Z.length cy) Z ∧ FiredAt w' w5.heap.size (.slice (some ⟨gz, 0, none⟩) Z.length cz) Z ∧ Below w.heap.size w w') (by kernel_rfl) (hst) (fun hHeld => ?_)
            refine wpAnyH_take (i := 0) (oi := { dst := some 68, op := Op.move (Operand.tmp 6), type := 25, pos := "outright.go:77", after := #[], guard := none }) (v := ?_) rfl (by kernel_rfl) (by kernel_rfl) (by kernel_rfl) (fun _ _ _ h => h) (Or.inl ⟨by rfl, ?_⟩) hHeld ?_
            rotate_left
            · intro w hSw
              clear hSw
              go_simp
              try with_reducible rfl
            try simp only [Act.put, List.setIfInBounds_toArray, List.set_cons_zero, List.set_cons_succ]
            refine wpAnyH_take (i := 1) (oi := { dst := some 69, op := Op.move (Operand.tmp 10), type := 3, pos := "outright.go:77", after := #[], guard := none }) (v := ?_) rfl (by kernel_rfl) (by kernel_rfl) (by kernel_rfl) (fun _ _ _ h => h) (Or.inl ⟨by rfl, ?_⟩) hHeld ?_
            rotate_left
            · intro w hSw
              clear hSw
              go_simp
              try with_reducible rfl
            try simp only [Act.put, List.setIfInBounds_toArray, List.set_cons_zero, List.set_cons_succ]
            refine wpAnyH_take (i := 2) (oi := { dst := some 70, op := Op.indexAddr 25 (Operand.tmp 68) (Operand.tmp 69), type := 0, pos := "outright.go:77", after := #[{ on := 0, ground := Ground.data }, { on := 1, ground := Ground.data }], guard := none }) (v := ?_) rfl (by kernel_rfl) (by kernel_rfl) (by kernel_rfl) (fun _ _ _ h => h) (Or.inl ⟨by rfl, ?_⟩) hHeld ?_
            rotate_left
            · intro w hSw
              clear hSw
              go_simp
              try with_reducible rfl
            try simp only [Act.put, List.setIfInBounds_toArray, List.set_cons_zero, List.set_cons_succ]
            refine wpAnyH_take (i := 3) (oi := { dst := some 71, op := Op.load 32 (Operand.tmp 70), type := 32, pos := "outright.go:77", after := #[{ on := 2, ground := Ground.data }], guard := none }) (v := ?_) rfl (by kernel_rfl) (by kernel_rfl) (by kernel_rfl) (fun _ _ _ h => h) (Or.inl ⟨by rfl, ?_⟩) hHeld ?_
            rotate_left
            · intro w hSw
              obtain ⟨q1, q2, q3, q4⟩ := hSw
              obtain ⟨x0, x1, x2, x3⟩ := FiredAt.cs q1 hoi
              obtain ⟨y0, y1, y2, y3⟩ := FiredAt.cs q2 hoi
              obtain ⟨z0, z1, z2, z3⟩ := FiredAt.cs q3 hoi
              go_simp
              try with_reducible rfl
            try simp only [Act.put, List.setIfInBounds_toArray, List.set_cons_zero, List.set_cons_succ]
            refine wpAnyH_take (i := 4) (oi := { dst := some 72, op := Op.move (Operand.tmp 7), type := 25, pos := "outright.go:77", after := #[], guard := none }) (v := ?_) rfl (by kernel_rfl) (by kernel_rfl) (by kernel_rfl) (fun _ _ _ h => h) (Or.inl ⟨by rfl, ?_⟩) hHeld ?_
            rotate_left
            · intro w hSw
              clear hSw
              go_simp
              try with_reducible rfl
            try simp only [Act.put, List.setIfInBounds_toArray, List.set_cons_zero, List.set_cons_succ]
            refine wpAnyH_take (i := 5) (oi := { dst := some 73, op := Op.move (Operand.tmp 10), type := 3, pos := "outright.go:77", after := #[], guard := none }) (v := ?_) rfl (by kernel_rfl) (by kernel_rfl) (by kernel_rfl) (fun _ _ _ h => h) (Or.inl ⟨by rfl, ?_⟩) hHeld ?_
            rotate_left
            · intro w hSw
              clear hSw
              go_simp
              try with_reducible rfl
            try simp only [Act.put, List.setIfInBounds_toArray, List.set_cons_zero, List.set_cons_succ]
            refine wpAnyH_take (i := 6) (oi := { dst := some 74, op := Op.indexAddr 25 (Operand.tmp 72) (Operand.tmp 73), type := 0, pos := "outright.go:77", after := #[{ on := 4, ground := Ground.data }, { on := 5, ground := Ground.data }], guard := none }) (v := ?_) rfl (by kernel_rfl) (by kernel_rfl) (by kernel_rfl) (fun _ _ _ h => h) (Or.inl ⟨by rfl, ?_⟩) hHeld ?_
            rotate_left
            · intro w hSw
              clear hSw
              go_simp
              try with_reducible rfl
            try simp only [Act.put, List.setIfInBounds_toArray, List.set_cons_zero, List.set_cons_succ]
            refine wpAnyH_take (i := 7) (oi := { dst := some 75, op := Op.load 32 (Operand.tmp 74), type := 32, pos := "outright.go:77", after := #[{ on := 6, ground := Ground.data }], guard := none }) (v := ?_) rfl (by kernel_rfl) (by kernel_rfl) (by kernel_rfl) (fun _ _ _ h => h) (Or.inl ⟨by rfl, ?_⟩) hHeld ?_
            rotate_left
            · intro w hSw
              obtain ⟨q1, q2, q3, q4⟩ := hSw
              obtain ⟨x0, x1, x2, x3⟩ := FiredAt.cs q1 hoi
              obtain ⟨y0, y1, y2, y3⟩ := FiredAt.cs q2 hoi
              obtain ⟨z0, z1, z2, z3⟩ := FiredAt.cs q3 hoi
              go_simp
              try with_reducible rfl
            try simp only [Act.put, List.setIfInBounds_toArray, List.set_cons_zero, List.set_cons_succ]
            refine wpAnyH_take (i := 8) (oi := { dst := some 76, op := Op.binOp BinOp.neq 32 (Operand.tmp 71) (Operand.tmp 75) 32, type := 4, pos := "outright.go:77", after := #[{ on := 3, ground := Ground.data }, { on := 7, ground := Ground.data }], guard := none }) (v := ?_) rfl (by kernel_rfl) (by kernel_rfl) (by kernel_rfl) (fun _ _ _ h => h) (Or.inl ⟨by rfl, ?_⟩) hHeld ?_
            rotate_left
            · intro w hSw
              clear hSw
              go_simp
              try with_reducible rfl
            try simp only [Act.put, List.setIfInBounds_toArray, List.set_cons_zero, List.set_cons_succ]
            refine wpAnyH_take (i := 9) (oi := { dst := some 77, op := Op.move (Operand.tmp 76), type := 4, pos := "outright.go:77", after := #[{ on := 8, ground := Ground.data }], guard := none }) (v := ?_) rfl (by kernel_rfl) (by kernel_rfl) (by kernel_rfl) (fun _ _ _ h => h) (Or.inl ⟨by rfl, ?_⟩) hHeld ?_
            rotate_left
            · intro w hSw
              clear hSw
              go_simp
              try with_reducible rfl
            try simp only [Act.put, List.setIfInBounds_toArray, List.set_cons_zero, List.set_cons_succ]
            refine wpAnyH_take (i := 10) (oi := { dst := some 78, op := Op.move (Operand.tmp 6), type := 25, pos := "outright.go:77", after := #[{ on := 9, ground := Ground.guard }], guard := some (9, false) }) (v := ?_) rfl (by kernel_rfl) (by kernel_rfl) (by kernel_rfl) (fun _ _ _ h => h) (Or.inl ⟨by rfl, ?_⟩) hHeld ?_
            rotate_left
            · intro w hSw
              clear hSw
              go_simp
              try with_reducible rfl
            try simp only [Act.put, List.setIfInBounds_toArray, List.set_cons_zero, List.set_cons_succ]
            refine wpAnyH_take (i := 11) (oi := { dst := some 79, op := Op.move (Operand.tmp 10), type := 3, pos := "outright.go:77", after := #[{ on := 9, ground := Ground.guard }], guard := some (9, false) }) (v := ?_) rfl (by kernel_rfl) (by kernel_rfl) (by kernel_rfl) (fun _ _ _ h => h) (Or.inl ⟨by rfl, ?_⟩) hHeld ?_
            rotate_left
            · intro w hSw
              clear hSw
              go_simp
              try with_reducible rfl
            try simp only [Act.put, List.setIfInBounds_toArray, List.set_cons_zero, List.set_cons_succ]
            refine wpAnyH_take (i := 12) (oi := { dst := some 80, op := Op.indexAddr 25 (Operand.tmp 78) (Operand.tmp 79), type := 0, pos := "outright.go:77", after := #[{ on := 10, ground := Ground.data }, { on := 11, ground := Ground.data }, { on := 9, ground := Ground.guard }], guard := some (9, false) }) (v := ?_) rfl (by kernel_rfl) (by kernel_rfl) (by kernel_rfl) (fun _ _ _ h => h) (Or.inl ⟨by rfl, ?_⟩) hHeld ?_
            rotate_left
            · intro w hSw
              clear hSw
              go_simp
              try with_reducible rfl
            try simp only [Act.put, List.setIfInBounds_toArray, List.set_cons_zero, List.set_cons_succ]
            refine wpAnyH_take (i := 13) (oi := { dst := some 81, op := Op.load 32 (Operand.tmp 80), type := 32, pos := "outright.go:77", after := #[{ on := 12, ground := Ground.data }, { on := 9, ground := Ground.guard }], guard := some (9, false) }) (v := ?_) rfl (by kernel_rfl) (by kernel_rfl) (by kernel_rfl) (fun _ _ _ h => h) (Or.inl ⟨by rfl, ?_⟩) hHeld ?_
            rotate_left
            · intro w hSw
              obtain ⟨q1, q2, q3, q4⟩ := hSw
              obtain ⟨x0, x1, x2, x3⟩ := FiredAt.cs q1 hoi
              obtain ⟨y0, y1, y2, y3⟩ := FiredAt.cs q2 hoi
              obtain ⟨z0, z1, z2, z3⟩ := FiredAt.cs q3 hoi
              go_simp
              try with_reducible rfl
            try simp only [Act.put, List.setIfInBounds_toArray, List.set_cons_zero, List.set_cons_succ]
            refine wpAnyH_take (i := 14) (oi := { dst := some 82, op := Op.move (Operand.tmp 8), type := 25, pos := "outright.go:77", after := #[{ on := 9, ground := Ground.guard }], guard := some (9, false) }) (v := ?_) rfl (by kernel_rfl) (by kernel_rfl) (by kernel_rfl) (fun _ _ _ h => h) (Or.inl ⟨by rfl, ?_⟩) hHeld ?_
            rotate_left
            · intro w hSw
              clear hSw
              go_simp
              try with_reducible rfl
            try simp only [Act.put, List.setIfInBounds_toArray, List.set_cons_zero, List.set_cons_succ]
            refine wpAnyH_take (i := 15) (oi := { dst := some 83, op := Op.move (Operand.tmp 10), type := 3, pos := "outright.go:77", after := #[{ on := 9, ground := Ground.guard }], guard := some (9, false) }) (v := ?_) rfl (by kernel_rfl) (by kernel_rfl) (by kernel_rfl) (fun _ _ _ h => h) (Or.inl ⟨by rfl, ?_⟩) hHeld ?_
            rotate_left
            · intro w hSw
              clear hSw
              go_simp
              try with_reducible rfl
            try simp only [Act.put, List.setIfInBounds_toArray, List.set_cons_zero, List.set_cons_succ]
            refine wpAnyH_take (i := 16) (oi := { dst := some 84, op := Op.indexAddr 25 (Operand.tmp 82) (Operand.tmp 83), type := 0, pos := "outright.go:77", after := #[{ on := 14, ground := Ground.data }, { on := 15, ground := Ground.data }, { on := 9, ground := Ground.guard }], guard := some (9, false) }) (v := ?_) rfl (by kernel_rfl) (by kernel_rfl) (by kernel_rfl) (fun _ _ _ h => h) (Or.inl ⟨by rfl, ?_⟩) hHeld ?_
            rotate_left
            · intro w hSw
              clear hSw
              go_simp
              try with_reducible rfl
            try simp only [Act.put, List.setIfInBounds_toArray, List.set_cons_zero, List.set_cons_succ]
            refine wpAnyH_take (i := 17) (oi := { dst := some 85, op := Op.load 32 (Operand.tmp 84), type := 32, pos := "outright.go:77", after := #[{ on := 16, ground := Ground.data }, { on := 9, ground := Ground.guard }], guard := some (9, false) }) (v := ?_) rfl (by kernel_rfl) (by kernel_rfl) (by kernel_rfl) (fun _ _ _ h => h) (Or.inl ⟨by rfl, ?_⟩) hHeld ?_
            rotate_left
            · intro w hSw
              obtain ⟨q1, q2, q3, q4⟩ := hSw
              obtain ⟨x0, x1, x2, x3⟩ := FiredAt.cs q1 hoi
              obtain ⟨y0, y1, y2, y3⟩ := FiredAt.cs q2 hoi
              obtain ⟨z0, z1, z2, z3⟩ := FiredAt.cs q3 hoi
              go_simp
              try with_reducible rfl
            try simp only [Act.put, List.setIfInBounds_toArray, List.set_cons_zero, List.set_cons_succ]
            refine wpAnyH_take (i := 18) (oi := { dst := some 86, op := Op.binOp BinOp.neq 32 (Operand.tmp 81) (Operand.tmp 85) 32, type := 4, pos := "outright.go:77", after := #[{ on := 13, ground := Ground.data }, { on := 17, ground := Ground.data }, { on := 9, ground := Ground.guard }], guard := some (9, false) }) (v := ?_) rfl (by kernel_rfl) (by kernel_rfl) (by kernel_rfl) (fun _ _ _ h => h) (Or.inl ⟨by rfl, ?_⟩) hHeld ?_
            rotate_left
            · intro w hSw
              clear hSw
              go_simp
              try with_reducible rfl
            try simp only [Act.put, List.setIfInBounds_toArray, List.set_cons_zero, List.set_cons_succ]
            refine wpAnyH_take (i := 19) (oi := { dst := some 87, op := Op.pick (Operand.tmp 77) (Operand.const (Value.bool true)) (Operand.tmp 86), type := 4, pos := "outright.go:77", after := #[{ on := 9, ground := Ground.data }, { on := 18, ground := Ground.data }], guard := none }) (v := ?_) rfl (by kernel_rfl) (by kernel_rfl) (by kernel_rfl) (fun _ _ _ h => h) (Or.inl ⟨by rfl, ?_⟩) hHeld ?_
            rotate_left
            · intro w hSw
              clear hSw
              go_simp
              try with_reducible rfl
            try simp only [Act.put, List.setIfInBounds_toArray, List.set_cons_zero, List.set_cons_succ]
            refine wpAnyH_take (i := 20) (oi := { dst := some 88, op := Op.move (Operand.tmp 87), type := 4, pos := "outright.go:77", after := #[{ on := 19, ground := Ground.data }, { on := 9, ground := Ground.chain }], guard := none }) (v := ?_) rfl (by kernel_rfl) (by kernel_rfl) (by kernel_rfl) (fun _ _ _ h => h) (Or.inl ⟨by rfl, ?_⟩) hHeld ?_
            rotate_left
            · intro w hSw
              clear hSw
              go_simp
              try with_reducible rfl
            try simp only [Act.put, List.setIfInBounds_toArray, List.set_cons_zero, List.set_cons_succ]
            refine wpAnyH_take (i := 21) (oi := { dst := some 89, op := Op.move (Operand.tmp 10), type := 3, pos := "outright.go:77", after := #[{ on := 20, ground := Ground.guard }], guard := some (20, false) }) (v := ?_) rfl (by kernel_rfl) (by kernel_rfl) (by kernel_rfl) (fun _ _ _ h => h) (Or.inl ⟨by rfl, ?_⟩) hHeld ?_
            rotate_left
            · intro w hSw
              clear hSw
              go_simp
              try with_reducible rfl
            try simp only [Act.put, List.setIfInBounds_toArray, List.set_cons_zero, List.set_cons_succ]
            refine wpAnyH_take (i := 22) (oi := { dst := some 90, op := Op.binOp BinOp.gtr 3 (Operand.tmp 89) (Operand.const (Value.int IntKind.i64 0)) 3, type := 4, pos := "outright.go:77", after := #[{ on := 21, ground := Ground.data }, { on := 20, ground := Ground.guard }], guard := some (20, false) }) (v := ?_) rfl (by kernel_rfl) (by kernel_rfl) (by kernel_rfl) (fun _ _ _ h => h) (Or.inl ⟨by rfl, ?_⟩) hHeld ?_
            rotate_left
            · intro w hSw
              clear hSw
              go_simp
              try with_reducible rfl
            try simp only [Act.put, List.setIfInBounds_toArray, List.set_cons_zero, List.set_cons_succ]
            refine wpAnyH_take (i := 23) (oi := { dst := some 91, op := Op.move (Operand.tmp 90), type := 4, pos := "outright.go:77", after := #[{ on := 22, ground := Ground.data }, { on := 20, ground := Ground.chain }, { on := 20, ground := Ground.guard }], guard := some (20, false) }) (v := ?_) rfl (by kernel_rfl) (by kernel_rfl) (by kernel_rfl) (fun _ _ _ h => h) (Or.inl ⟨by rfl, ?_⟩) hHeld ?_
            rotate_left
            · intro w hSw
              clear hSw
              go_simp
              try with_reducible rfl
            try simp only [Act.put, List.setIfInBounds_toArray, List.set_cons_zero, List.set_cons_succ]
            refine wpAnyH_take (i := 24) (oi := { dst := some 92, op := Op.move (Operand.tmp 6), type := 25, pos := "outright.go:77", after := #[{ on := 23, ground := Ground.guard }], guard := some (23, true) }) (v := undef) rfl (by kernel_rfl) (by kernel_rfl) (by kernel_rfl) (fun _ _ _ h => h) (Or.inr ⟨by rfl, rfl⟩) hHeld ?_
            try simp only [Act.put, List.setIfInBounds_toArray, List.set_cons_zero, List.set_cons_succ]
            refine wpAnyH_take (i := 25) (oi := { dst := some 93, op := Op.move (Operand.tmp 10), type := 3, pos := "outright.go:77", after := #[{ on := 23, ground := Ground.guard }], guard := some (23, true) }) (v := undef) rfl (by kernel_rfl) (by kernel_rfl) (by kernel_rfl) (fun _ _ _ h => h) (Or.inr ⟨by rfl, rfl⟩) hHeld ?_
            try simp only [Act.put, List.setIfInBounds_toArray, List.set_cons_zero, List.set_cons_succ]
            refine wpAnyH_take (i := 26) (oi := { dst := some 94, op := Op.binOp BinOp.sub 3 (Operand.tmp 93) (Operand.const (Value.int IntKind.i64 1)) 3, type := 3, pos := "outright.go:77", after := #[{ on := 25, ground := Ground.data }, { on := 23, ground := Ground.guard }], guard := some (23, true) }) (v := undef) rfl (by kernel_rfl) (by kernel_rfl) (by kernel_rfl) (fun _ _ _ h => h) (Or.inr ⟨by rfl, rfl⟩) hHeld ?_
            try simp only [Act.put, List.setIfInBounds_toArray, List.set_cons_zero, List.set_cons_succ]
            refine wpAnyH_take (i := 27) (oi := { dst := some 95, op := Op.indexAddr 25 (Operand.tmp 92) (Operand.tmp 94), type := 0, pos := "outright.go:77", after := #[{ on := 24, ground := Ground.data }, { on := 26, ground := Ground.data }, { on := 23, ground := Ground.guard }], guard := some (23, true) }) (v := undef) rfl (by kernel_rfl) (by kernel_rfl) (by kernel_rfl) (fun _ _ _ h => h) (Or.inr ⟨by rfl, rfl⟩) hHeld ?_
            try simp only [Act.put, List.setIfInBounds_toArray, List.set_cons_zero, List.set_cons_succ]
            refine wpAnyH_take (i := 28) (oi := { dst := some 96, op := Op.load 32 (Operand.tmp 95), type := 32, pos := "outright.go:77", after := #[{ on := 27, ground := Ground.data }, { on := 23, ground := Ground.guard }], guard := some (23, true) }) (v := undef) rfl (by kernel_rfl) (by kernel_rfl) (by kernel_rfl) (fun _ _ _ h => h) (Or.inr ⟨by rfl, rfl⟩) hHeld ?_
            try simp only [Act.put, List.setIfInBounds_toArray, List.set_cons_zero, List.set_cons_succ]
            refine wpAnyH_take (i := 29) (oi := { dst := some 97, op := Op.move (Operand.tmp 6), type := 25, pos := "outright.go:77", after := #[{ on := 23, ground := Ground.guard }], guard := some (23, true) }) (v := undef) rfl (by kernel_rfl) (by kernel_rfl) (by kernel_rfl) (fun _ _ _ h => h) (Or.inr ⟨by rfl, rfl⟩) hHeld ?_
            try simp only [Act.put, List.setIfInBounds_toArray, List.set_cons_zero, List.set_cons_succ]
            refine wpAnyH_take (i := 30) (oi := { dst := some 98, op := Op.move (Operand.tmp 10), type := 3, pos := "outright.go:77", after := #[{ on := 23, ground := Ground.guard }], guard := some (23, true) }) (v := undef) rfl (by kernel_rfl) (by kernel_rfl) (by kernel_rfl) (fun _ _ _ h => h) (Or.inr ⟨by rfl, rfl⟩) hHeld ?_
            try simp only [Act.put, List.setIfInBounds_toArray, List.set_cons_zero, List.set_cons_succ]
            refine wpAnyH_take (i := 31) (oi := { dst := some 99, op := Op.indexAddr 25 (Operand.tmp 97) (Operand.tmp 98), type := 0, pos := "outright.go:77", after := #[{ on := 29, ground := Ground.data }, { on := 30, ground := Ground.data }, { on := 23, ground := Ground.guard }], guard := some (23, true) }) (v := undef) rfl (by kernel_rfl) (by kernel_rfl) (by kernel_rfl) (fun _ _ _ h => h) (Or.inr ⟨by rfl, rfl⟩) hHeld ?_
            try simp only [Act.put, List.setIfInBounds_toArray, List.set_cons_zero, List.set_cons_succ]
            refine wpAnyH_take (i := 32) (oi := { dst := some 100, op := Op.load 32 (Operand.tmp 99), type := 32, pos := "outright.go:77", after := #[{ on := 31, ground := Ground.data }, { on := 23, ground := Ground.guard }], guard := some (23, true) }) (v := undef) rfl (by kernel_rfl) (by kernel_rfl) (by kernel_rfl) (fun _ _ _ h => h) (Or.inr ⟨by rfl, rfl⟩) hHeld ?_
            try simp only [Act.put, List.setIfInBounds_toArray, List.set_cons_zero, List.set_cons_succ]
            refine wpAnyH_take (i := 33) (oi := { dst := some 101, op := Op.call { callee := Callee.value (Operand.func 10), args := #[Operand.tmp 96, Operand.tmp 100], argTypes := #[32, 32] }, type := 4, pos := "outright.go:77", after := #[{ on := 28, ground := Ground.data }, { on := 32, ground := Ground.data }, { on := 23, ground := Ground.chain }, { on := 23, ground := Ground.guard }], guard := some (23, true) }) (v := undef) rfl (by kernel_rfl) (by kernel_rfl) (by kernel_rfl) (fun _ _ _ h => h) (Or.inr ⟨by rfl, rfl⟩) hHeld ?_
            try simp only [Act.put, List.setIfInBounds_toArray, List.set_cons_zero, List.set_cons_succ]
            refine wpAnyH_take (i := 34) (oi := { dst := some 102, op := Op.unOp UnOp.not 4 (Operand.tmp 101), type := 4, pos := "outright.go:77", after := #[{ on := 33, ground := Ground.data }, { on := 23, ground := Ground.guard }], guard := some (23, true) }) (v := undef) rfl (by kernel_rfl) (by kernel_rfl) (by kernel_rfl) (fun _ _ _ h => h) (Or.inr ⟨by rfl, rfl⟩) hHeld ?_
            try simp only [Act.put, List.setIfInBounds_toArray, List.set_cons_zero, List.set_cons_succ]
            refine wpAnyH_take (i := 35) (oi := { dst := some 103, op := Op.pick (Operand.tmp 91) (Operand.tmp 102) (Operand.const (Value.bool false)), type := 4, pos := "outright.go:77", after := #[{ on := 23, ground := Ground.data }, { on := 34, ground := Ground.data }, { on := 20, ground := Ground.guard }], guard := some (20, false) }) (v := ?_) rfl (by kernel_rfl) (by kernel_rfl) (by kernel_rfl) (fun _ _ _ h => h) (Or.inl ⟨by rfl, ?_⟩) hHeld ?_
            rotate_left
            · intro w hSw
              clear hSw
              go_simp
              try with_reducible rfl
            try simp only [Act.put, List.setIfInBounds_toArray, List.set_cons_zero, List.set_cons_succ]
            refine wpAnyH_take (i := 36) (oi := { dst := some 104, op := Op.pick (Operand.tmp 88) (Operand.const (Value.bool true)) (Operand.tmp 103), type := 4, pos := "outright.go:77", after := #[{ on := 20, ground := Ground.data }, { on := 35, ground := Ground.data }], guard := none }) (v := ?_) rfl (by kernel_rfl) (by kernel_rfl) (by kernel_rfl) (fun _ _ _ h => h) (Or.inl ⟨by rfl, ?_⟩) hHeld ?_
            rotate_left
            · intro w hSw
              clear hSw
              go_simp
              try with_reducible rfl
            try simp only [Act.put, List.setIfInBounds_toArray, List.set_cons_zero, List.set_cons_succ]
            refine wpAnyH_done (by kernel_rfl) ?_ _
            go_wp2_with fail
            exact ⟨⟨1, by omega, rfl, hHeld.1, hHeld.2.1, hHeld.2.2.1, hHeld.2.2.2⟩, by simp [intOf] <;> omega⟩
          · obtain ⟨i, hi1, hi2⟩ : ∃ i, (j : Int) - 1 = (i : Nat) ∧ j = i + 1 := ⟨j - 1, by omega, by omega⟩
            have hil : i < Z.length := by omega
            obtain ⟨p, hop⟩ : ∃ p, Z[i]? = some p := ⟨Z[i], List.getElem?_eq_getElem hil⟩
            have hAH : Hid (tlt p x = true) := by
              obtain ⟨a1, a2⟩ := List.getElem?_eq_some_iff.1 hop
              obtain ⟨b1, b2⟩ := List.getElem?_eq_some_iff.1 hoi
              have := List.pairwise_iff_getElem.1 HO.out i j a1 b1 (by omega)
              rw [a2, b2] at this
              exact this
            have hpos : 0 < j := by omega
            have hwr : IntKind.i64.wrap ((j : Int) - 1) = (i : Int) := by rw [hi1]; all_goals (simp [IntKind.wrap, IntKind.bits, IntKind.signed] <;> omega)
            clear hi1 hi2 hj0
            go_wp2_with fail
            refine wp_region_held_drew (S := fun w' => FiredAt w' w3.heap.size (.slice (some ⟨gx, 0, none⟩) Z.length cx) Z ∧ FiredAt w' w4.heap.size (.slice (some ⟨gy, 0, none⟩) Z.length cy) Z ∧ FiredAt w' w5.heap.size (.slice (some ⟨gz, 0, none⟩) Z.length cz) Z ∧ Below w.heap.size w w') (by kernel_rfl) (hst) (fun hHeld => ?_)
            refine wpAnyH_take (i := 0) (oi := { dst := some 68, op := Op.move (Operand.tmp 6), type := 25, pos := "outright.go:77", after := #[], guard := none }) (v := ?_) rfl (by kernel_rfl) (by kernel_rfl) (by kernel_rfl) (fun _ _ _ h => h) (Or.inl ⟨by rfl, ?_⟩) hHeld ?_
            rotate_left
            · intro w hSw
              clear hSw
              go_simp
              try with_reducible rfl
            try simp only [Act.put, List.setIfInBounds_toArray, List.set_cons_zero, List.set_cons_succ]
            refine wpAnyH_take (i := 1) (oi := { dst := some 69, op := Op.move (Operand.tmp 10), type := 3, pos := "outright.go:77", after := #[], guard := none }) (v := ?_) rfl (by kernel_rfl) (by kernel_rfl) (by kernel_rfl) (fun _ _ _ h => h) (Or.inl ⟨by rfl, ?_⟩) hHeld ?_
            rotate_left
            · intro w hSw
              clear hSw
              go_simp
              try with_reducible rfl
            try simp only [Act.put, List.setIfInBounds_toArray, List.set_cons_zero, List.set_cons_succ]
            refine wpAnyH_take (i := 2) (oi := { dst := some 70, op := Op.indexAddr 25 (Operand.tmp 68) (Operand.tmp 69), type := 0, pos := "outright.go:77", after := #[{ on := 0, ground := Ground.data }, { on := 1, ground := Ground.data }], guard := none }) (v := ?_) rfl (by kernel_rfl) (by kernel_rfl) (by kernel_rfl) (fun _ _ _ h => h) (Or.inl ⟨by rfl, ?_⟩) hHeld ?_
            rotate_left
            · intro w hSw
              clear hSw
              go_simp
              try with_reducible rfl
            try simp only [Act.put, List.setIfInBounds_toArray, List.set_cons_zero, List.set_cons_succ]
            refine wpAnyH_take (i := 3) (oi := { dst := some 71, op := Op.load 32 (Operand.tmp 70), type := 32, pos := "outright.go:77", after := #[{ on := 2, ground := Ground.data }], guard := none }) (v := ?_) rfl (by kernel_rfl) (by kernel_rfl) (by kernel_rfl) (fun _ _ _ h => h) (Or.inl ⟨by rfl, ?_⟩) hHeld ?_
            rotate_left
            · intro w hSw
              obtain ⟨q1, q2, q3, q4⟩ := hSw
              obtain ⟨x0, x1, x2, x3⟩ := FiredAt.cs q1 hoi
              obtain ⟨y0, y1, y2, y3⟩ := FiredAt.cs q2 hoi
              obtain ⟨z0, z1, z2, z3⟩ := FiredAt.cs q3 hoi
              obtain ⟨p0, p1, p2, p3⟩ := FiredAt.cs q1 hop
              go_simp
              try with_reducible rfl
            try simp only [Act.put, List.setIfInBounds_toArray, List.set_cons_zero, List.set_cons_succ]
            refine wpAnyH_take (i := 4) (oi := { dst := some 72, op := Op.move (Operand.tmp 7), type := 25, pos := "outright.go:77", after := #[], guard := none }) (v := ?_) rfl (by kernel_rfl) (by kernel_rfl) (by kernel_rfl) (fun _ _ _ h => h) (Or.inl ⟨by rfl, ?_⟩) hHeld ?_
            rotate_left
            · intro w hSw
              clear hSw
              go_simp
              try with_reducible rfl
            try simp only [Act.put, List.setIfInBounds_toArray, List.set_cons_zero, List.set_cons_succ]
            refine wpAnyH_take (i := 5) (oi := { dst := some 73, op := Op.move (Operand.tmp 10), type := 3, pos := "outright.go:77", after := #[], guard := none }) (v := ?_) rfl (by kernel_rfl) (by kernel_rfl) (by kernel_rfl) (fun _ _ _ h => h) (Or.inl ⟨by rfl, ?_⟩) hHeld ?_
            rotate_left
            · intro w hSw
              clear hSw
              go_simp
              try with_reducible rfl
            try simp only [Act.put, List.setIfInBounds_toArray, List.set_cons_zero, List.set_cons_succ]
            refine wpAnyH_take (i := 6) (oi := { dst := some 74, op := Op.indexAddr 25 (Operand.tmp 72) (Operand.tmp 73), type := 0, pos := "outright.go:77", after := #[{ on := 4, ground := Ground.data }, { on := 5, ground := Ground.data }], guard := none }) (v := ?_) rfl (by kernel_rfl) (by kernel_rfl) (by kernel_rfl) (fun _ _ _ h => h) (Or.inl ⟨by rfl, ?_⟩) hHeld ?_
            rotate_left
            · intro w hSw
              clear hSw
              go_simp
              try with_reducible rfl
            try simp only [Act.put, List.setIfInBounds_toArray, List.set_cons_zero, List.set_cons_succ]
            refine wpAnyH_take (i := 7) (oi := { dst := some 75, op := Op.load 32 (Operand.tmp 74), type := 32, pos := "outright.go:77", after := #[{ on := 6, ground := Ground.data }], guard := none }) (v := ?_) rfl (by kernel_rfl) (by kernel_rfl) (by kernel_rfl) (fun _ _ _ h => h) (Or.inl ⟨by rfl, ?_⟩) hHeld ?_
            rotate_left
            · intro w hSw
              obtain ⟨q1, q2, q3, q4⟩ := hSw
              obtain ⟨x0, x1, x2, x3⟩ := FiredAt.cs q1 hoi
              obtain ⟨y0, y1, y2, y3⟩ := FiredAt.cs q2 hoi
              obtain ⟨z0, z1, z2, z3⟩ := FiredAt.cs q3 hoi
              obtain ⟨p0, p1, p2, p3⟩ := FiredAt.cs q1 hop
              go_simp
              try with_reducible rfl
            try simp only [Act.put, List.setIfInBounds_toArray, List.set_cons_zero, List.set_cons_succ]
            refine wpAnyH_take (i := 8) (oi := { dst := some 76, op := Op.binOp BinOp.neq 32 (Operand.tmp 71) (Operand.tmp 75) 32, type := 4, pos := "outright.go:77", after := #[{ on := 3, ground := Ground.data }, { on := 7, ground := Ground.data }], guard := none }) (v := ?_) rfl (by kernel_rfl) (by kernel_rfl) (by kernel_rfl) (fun _ _ _ h => h) (Or.inl ⟨by rfl, ?_⟩) hHeld ?_
            rotate_left
            · intro w hSw
              clear hSw
              go_simp
              try with_reducible rfl
            try simp only [Act.put, List.setIfInBounds_toArray, List.set_cons_zero, List.set_cons_succ]
            refine wpAnyH_take (i := 9) (oi := { dst := some 77, op := Op.move (Operand.tmp 76), type := 4, pos := "outright.go:77", after := #[{ on := 8, ground := Ground.data }], guard := none }) (v := ?_) rfl (by kernel_rfl) (by kernel_rfl) (by kernel_rfl) (fun _ _ _ h => h) (Or.inl ⟨by rfl, ?_⟩) hHeld ?_
            rotate_left
            · intro w hSw
              clear hSw
              go_simp
              try with_reducible rfl
            try simp only [Act.put, List.setIfInBounds_toArray, List.set_cons_zero, List.set_cons_succ]
            refine wpAnyH_take (i := 10) (oi := { dst := some 78, op := Op.move (Operand.tmp 6), type := 25, pos := "outright.go:77", after := #[{ on := 9, ground := Ground.guard }], guard := some (9, false) }) (v := ?_) rfl (by kernel_rfl) (by kernel_rfl) (by kernel_rfl) (fun _ _ _ h => h) (Or.inl ⟨by rfl, ?_⟩) hHeld ?_
            rotate_left
            · intro w hSw
              clear hSw
              go_simp
              try with_reducible rfl
            try simp only [Act.put, List.setIfInBounds_toArray, List.set_cons_zero, List.set_cons_succ]
            refine wpAnyH_take (i := 11) (oi := { dst := some 79, op := Op.move (Operand.tmp 10), type := 3, pos := "outright.go:77", after := #[{ on := 9, ground := Ground.guard }], guard := some (9, false) }) (v := ?_) rfl (by kernel_rfl) (by kernel_rfl) (by kernel_rfl) (fun _ _ _ h => h) (Or.inl ⟨by rfl, ?_⟩) hHeld ?_
            rotate_left
            · intro w hSw
              clear hSw
              go_simp
              try with_reducible rfl
            try simp only [Act.put, List.setIfInBounds_toArray, List.set_cons_zero, List.set_cons_succ]
            refine wpAnyH_take (i := 12) (oi := { dst := some 80, op := Op.indexAddr 25 (Operand.tmp 78) (Operand.tmp 79), type := 0, pos := "outright.go:77", after := #[{ on := 10, ground := Ground.data }, { on := 11, ground := Ground.data }, { on := 9, ground := Ground.guard }], guard := some (9, false) }) (v := ?_) rfl (by kernel_rfl) (by kernel_rfl) (by kernel_rfl) (fun _ _ _ h => h) (Or.inl ⟨by rfl, ?_⟩) hHeld ?_
            rotate_left
            · intro w hSw
              clear hSw
              go_simp
              try with_reducible rfl
            try simp only [Act.put, List.setIfInBounds_toArray, List.set_cons_zero, List.set_cons_succ]
            refine wpAnyH_take (i := 13) (oi := { dst := some 81, op := Op.load 32 (Operand.tmp 80), type := 32, pos := "outright.go:77", after := #[{ on := 12, ground := Ground.data }, { on := 9, ground := Ground.guard }], guard := some (9, false) }) (v := ?_) rfl (by kernel_rfl) (by kernel_rfl) (by kernel_rfl) (fun _ _ _ h => h) (Or.inl ⟨by rfl, ?_⟩) hHeld ?_
            rotate_left
            · intro w hSw
              obtain ⟨q1, q2, q3, q4⟩ := hSw
              obtain ⟨x0, x1, x2, x3⟩ := FiredAt.cs q1 hoi
              obtain ⟨y0, y1, y2, y3⟩ := FiredAt.cs q2 hoi
              obtain ⟨z0, z1, z2, z3⟩ := FiredAt.cs q3 hoi
              obtain ⟨p0, p1, p2, p3⟩ := FiredAt.cs q1 hop
              go_simp
              try with_reducible rfl
            try simp only [Act.put, List.setIfInBounds_toArray, List.set_cons_zero, List.set_cons_succ]
            refine wpAnyH_take (i := 14) (oi := { dst := some 82, op := Op.move (Operand.tmp 8), type := 25, pos := "outright.go:77", after := #[{ on := 9, ground := Ground.guard }], guard := some (9, false) }) (v := ?_) rfl (by kernel_rfl) (by kernel_rfl) (by kernel_rfl) (fun _ _ _ h => h) (Or.inl ⟨by rfl, ?_⟩) hHeld ?_
            rotate_left
            · intro w hSw
              clear hSw
              go_simp
              try with_reducible rfl
            try simp only [Act.put, List.setIfInBounds_toArray, List.set_cons_zero, List.set_cons_succ]
            refine wpAnyH_take (i := 15) (oi := { dst := some 83, op := Op.move (Operand.tmp 10), type := 3, pos := "outright.go:77", after := #[{ on := 9, ground := Ground.guard }], guard := some (9, false) }) (v := ?_) rfl (by kernel_rfl) (by kernel_rfl) (by kernel_rfl) (fun _ _ _ h => h) (Or.inl ⟨by rfl, ?_⟩) hHeld ?_
            rotate_left
            · intro w hSw
              clear hSw
              go_simp
              try with_reducible rfl
            try simp only [Act.put, List.setIfInBounds_toArray, List.set_cons_zero, List.set_cons_succ]
            refine wpAnyH_take (i := 16) (oi := { dst := some 84, op := Op.indexAddr 25 (Operand.tmp 82) (Operand.tmp 83), type := 0, pos := "outright.go:77", after := #[{ on := 14, ground := Ground.data }, { on := 15, ground := Ground.data }, { on := 9, ground := Ground.guard }], guard := some (9, false) }) (v := ?_) rfl (by kernel_rfl) (by kernel_rfl) (by kernel_rfl) (fun _ _ _ h => h) (Or.inl ⟨by rfl, ?_⟩) hHeld ?_
            rotate_left
            · intro w hSw
              clear hSw
              go_simp
              try with_reducible rfl
            try simp only [Act.put, List.setIfInBounds_toArray, List.set_cons_zero, List.set_cons_succ]
            refine wpAnyH_take (i := 17) (oi := { dst := some 85, op := Op.load 32 (Operand.tmp 84), type := 32, pos := "outright.go:77", after := #[{ on := 16, ground := Ground.data }, { on := 9, ground := Ground.guard }], guard := some (9, false) }) (v := ?_) rfl (by kernel_rfl) (by kernel_rfl) (by kernel_rfl) (fun _ _ _ h => h) (Or.inl ⟨by rfl, ?_⟩) hHeld ?_
            rotate_left
            · intro w hSw
              obtain ⟨q1, q2, q3, q4⟩ := hSw
              obtain ⟨x0, x1, x2, x3⟩ := FiredAt.cs q1 hoi
              obtain ⟨y0, y1, y2, y3⟩ := FiredAt.cs q2 hoi
              obtain ⟨z0, z1, z2, z3⟩ := FiredAt.cs q3 hoi
              obtain ⟨p0, p1, p2, p3⟩ := FiredAt.cs q1 hop
              go_simp
              try with_reducible rfl
            try simp only [Act.put, List.setIfInBounds_toArray, List.set_cons_zero, List.set_cons_succ]
            refine wpAnyH_take (i := 18) (oi := { dst := some 86, op := Op.binOp BinOp.neq 32 (Operand.tmp 81) (Operand.tmp 85) 32, type := 4, pos := "outright.go:77", after := #[{ on := 13, ground := Ground.data }, { on := 17, ground := Ground.data }, { on := 9, ground := Ground.guard }], guard := some (9, false) }) (v := ?_) rfl (by kernel_rfl) (by kernel_rfl) (by kernel_rfl) (fun _ _ _ h => h) (Or.inl ⟨by rfl, ?_⟩) hHeld ?_
            rotate_left
            · intro w hSw
              clear hSw
              go_simp
              try with_reducible rfl
            try simp only [Act.put, List.setIfInBounds_toArray, List.set_cons_zero, List.set_cons_succ]
            refine wpAnyH_take (i := 19) (oi := { dst := some 87, op := Op.pick (Operand.tmp 77) (Operand.const (Value.bool true)) (Operand.tmp 86), type := 4, pos := "outright.go:77", after := #[{ on := 9, ground := Ground.data }, { on := 18, ground := Ground.data }], guard := none }) (v := ?_) rfl (by kernel_rfl) (by kernel_rfl) (by kernel_rfl) (fun _ _ _ h => h) (Or.inl ⟨by rfl, ?_⟩) hHeld ?_
            rotate_left
            · intro w hSw
              clear hSw
              go_simp
              try with_reducible rfl
            try simp only [Act.put, List.setIfInBounds_toArray, List.set_cons_zero, List.set_cons_succ]
            refine wpAnyH_take (i := 20) (oi := { dst := some 88, op := Op.move (Operand.tmp 87), type := 4, pos := "outright.go:77", after := #[{ on := 19, ground := Ground.data }, { on := 9, ground := Ground.chain }], guard := none }) (v := ?_) rfl (by kernel_rfl) (by kernel_rfl) (by kernel_rfl) (fun _ _ _ h => h) (Or.inl ⟨by rfl, ?_⟩) hHeld ?_
            rotate_left
            · intro w hSw
              clear hSw
              go_simp
              try with_reducible rfl
            try simp only [Act.put, List.setIfInBounds_toArray, List.set_cons_zero, List.set_cons_succ]
            refine wpAnyH_take (i := 21) (oi := { dst := some 89, op := Op.move (Operand.tmp 10), type := 3, pos := "outright.go:77", after := #[{ on := 20, ground := Ground.guard }], guard := some (20, false) }) (v := ?_) rfl (by kernel_rfl) (by kernel_rfl) (by kernel_rfl) (fun _ _ _ h => h) (Or.inl ⟨by rfl, ?_⟩) hHeld ?_
            rotate_left
            · intro w hSw
              clear hSw
              go_simp
              try with_reducible rfl
            try simp only [Act.put, List.setIfInBounds_toArray, List.set_cons_zero, List.set_cons_succ]
            refine wpAnyH_take (i := 22) (oi := { dst := some 90, op := Op.binOp BinOp.gtr 3 (Operand.tmp 89) (Operand.const (Value.int IntKind.i64 0)) 3, type := 4, pos := "outright.go:77", after := #[{ on := 21, ground := Ground.data }, { on := 20, ground := Ground.guard }], guard := some (20, false) }) (v := ?_) rfl (by kernel_rfl) (by kernel_rfl) (by kernel_rfl) (fun _ _ _ h => h) (Or.inl ⟨by rfl, ?_⟩) hHeld ?_
            rotate_left
            · intro w hSw
              clear hSw
              go_simp
              try with_reducible rfl
            try simp only [Act.put, List.setIfInBounds_toArray, List.set_cons_zero, List.set_cons_succ]
            refine wpAnyH_take (i := 23) (oi := { dst := some 91, op := Op.move (Operand.tmp 90), type := 4, pos := "outright.go:77", after := #[{ on := 22, ground := Ground.data }, { on := 20, ground := Ground.chain }, { on := 20, ground := Ground.guard }], guard := some (20, false) }) (v := ?_) rfl (by kernel_rfl) (by kernel_rfl) (by kernel_rfl) (fun _ _ _ h => h) (Or.inl ⟨by rfl, ?_⟩) hHeld ?_
            rotate_left
            · intro w hSw
              clear hSw
              go_simp
              try with_reducible rfl
            try simp only [Act.put, List.setIfInBounds_toArray, List.set_cons_zero, List.set_cons_succ]
            refine wpAnyH_take (i := 24) (oi := { dst := some 92, op := Op.move (Operand.tmp 6), type := 25, pos := "outright.go:77", after := #[{ on := 23, ground := Ground.guard }], guard := some (23, true) }) (v := ?_) rfl (by kernel_rfl) (by kernel_rfl) (by kernel_rfl) (fun _ _ _ h => h) (Or.inl ⟨by rfl, ?_⟩) hHeld ?_
            rotate_left
            · intro w hSw
              clear hSw
              go_simp
              try with_reducible rfl
            try simp only [Act.put, List.setIfInBounds_toArray, List.set_cons_zero, List.set_cons_succ]
            refine wpAnyH_take (i := 25) (oi := { dst := some 93, op := Op.move (Operand.tmp 10), type := 3, pos := "outright.go:77", after := #[{ on := 23, ground := Ground.guard }], guard := some (23, true) }) (v := ?_) rfl (by kernel_rfl) (by kernel_rfl) (by kernel_rfl) (fun _ _ _ h => h) (Or.inl ⟨by rfl, ?_⟩) hHeld ?_
            rotate_left
            · intro w hSw
              clear hSw
              go_simp
              try with_reducible rfl
            try simp only [Act.put, List.setIfInBounds_toArray, List.set_cons_zero, List.set_cons_succ]
            refine wpAnyH_take (i := 26) (oi := { dst := some 94, op := Op.binOp BinOp.sub 3 (Operand.tmp 93) (Operand.const (Value.int IntKind.i64 1)) 3, type := 3, pos := "outright.go:77", after := #[{ on := 25, ground := Ground.data }, { on := 23, ground := Ground.guard }], guard := some (23, true) }) (v := ?_) rfl (by kernel_rfl) (by kernel_rfl) (by kernel_rfl) (fun _ _ _ h => h) (Or.inl ⟨by rfl, ?_⟩) hHeld ?_
            rotate_left
            · intro w hSw
              clear hSw
              go_simp
              try with_reducible rfl
            try simp only [Act.put, List.setIfInBounds_toArray, List.set_cons_zero, List.set_cons_succ]
            refine wpAnyH_take (i := 27) (oi := { dst := some 95, op := Op.indexAddr 25 (Operand.tmp 92) (Operand.tmp 94), type := 0, pos := "outright.go:77", after := #[{ on := 24, ground := Ground.data }, { on := 26, ground := Ground.data }, { on := 23, ground := Ground.guard }], guard := some (23, true) }) (v := ?_) rfl (by kernel_rfl) (by kernel_rfl) (by kernel_rfl) (fun _ _ _ h => h) (Or.inl ⟨by rfl, ?_⟩) hHeld ?_
            rotate_left
            · intro w hSw
              clear hSw
              go_simp
              try with_reducible rfl
            try simp only [Act.put, List.setIfInBounds_toArray, List.set_cons_zero, List.set_cons_succ]
            refine wpAnyH_take (i := 28) (oi := { dst := some 96, op := Op.load 32 (Operand.tmp 95), type := 32, pos := "outright.go:77", after := #[{ on := 27, ground := Ground.data }, { on := 23, ground := Ground.guard }], guard := some (23, true) }) (v := ?_) rfl (by kernel_rfl) (by kernel_rfl) (by kernel_rfl) (fun _ _ _ h => h) (Or.inl ⟨by rfl, ?_⟩) hHeld ?_
            rotate_left
            · intro w hSw
              obtain ⟨q1, q2, q3, q4⟩ := hSw
              obtain ⟨x0, x1, x2, x3⟩ := FiredAt.cs q1 hoi
              obtain ⟨y0, y1, y2, y3⟩ := FiredAt.cs q2 hoi
              obtain ⟨z0, z1, z2, z3⟩ := FiredAt.cs q3 hoi
              obtain ⟨p0, p1, p2, p3⟩ := FiredAt.cs q1 hop
              go_simp
              try with_reducible rfl
            try simp only [Act.put, List.setIfInBounds_toArray, List.set_cons_zero, List.set_cons_succ]
            refine wpAnyH_take (i := 29) (oi := { dst := some 97, op := Op.move (Operand.tmp 6), type := 25, pos := "outright.go:77", after := #[{ on := 23, ground := Ground.guard }], guard := some (23, true) }) (v := ?_) rfl (by kernel_rfl) (by kernel_rfl) (by kernel_rfl) (fun _ _ _ h => h) (Or.inl ⟨by rfl, ?_⟩) hHeld ?_
            rotate_left
            · intro w hSw
              clear hSw
              go_simp
              try with_reducible rfl
            try simp only [Act.put, List.setIfInBounds_toArray, List.set_cons_zero, List.set_cons_succ]
            refine wpAnyH_take (i := 30) (oi := { dst := some 98, op := Op.move (Operand.tmp 10), type := 3, pos := "outright.go:77", after := #[{ on := 23, ground := Ground.guard }], guard := some (23, true) }) (v := ?_) rfl (by kernel_rfl) (by kernel_rfl) (by kernel_rfl) (fun _ _ _ h => h) (Or.inl ⟨by rfl, ?_⟩) hHeld ?_
            rotate_left
            · intro w hSw
              clear hSw
              go_simp
              try with_reducible rfl
            try simp only [Act.put, List.setIfInBounds_toArray, List.set_cons_zero, List.set_cons_succ]
            refine wpAnyH_take (i := 31) (oi := { dst := some 99, op := Op.indexAddr 25 (Operand.tmp 97) (Operand.tmp 98), type := 0, pos := "outright.go:77", after := #[{ on := 29, ground := Ground.data }, { on := 30, ground := Ground.data }, { on := 23, ground := Ground.guard }], guard := some (23, true) }) (v := ?_) rfl (by kernel_rfl) (by kernel_rfl) (by kernel_rfl) (fun _ _ _ h => h) (Or.inl ⟨by rfl, ?_⟩) hHeld ?_
            rotate_left
            · intro w hSw
              clear hSw
              go_simp
              try with_reducible rfl
            try simp only [Act.put, List.setIfInBounds_toArray, List.set_cons_zero, List.set_cons_succ]
            refine wpAnyH_take (i := 32) (oi := { dst := some 100, op := Op.load 32 (Operand.tmp 99), type := 32, pos := "outright.go:77", after := #[{ on := 31, ground := Ground.data }, { on := 23, ground := Ground.guard }], guard := some (23, true) }) (v := ?_) rfl (by kernel_rfl) (by kernel_rfl) (by kernel_rfl) (fun _ _ _ h => h) (Or.inl ⟨by rfl, ?_⟩) hHeld ?_
            rotate_left
            · intro w hSw
              obtain ⟨q1, q2, q3, q4⟩ := hSw
              obtain ⟨x0, x1, x2, x3⟩ := FiredAt.cs q1 hoi
              obtain ⟨y0, y1, y2, y3⟩ := FiredAt.cs q2 hoi
              obtain ⟨z0, z1, z2, z3⟩ := FiredAt.cs q3 hoi
              obtain ⟨p0, p1, p2, p3⟩ := FiredAt.cs q1 hop
              go_simp
              try with_reducible rfl
            try simp only [Act.put, List.setIfInBounds_toArray, List.set_cons_zero, List.set_cons_succ]
            refine wpAnyH_ready (rs := [33]) (by kernel_rfl) (by simp) ?_
            refine AllReadyH.cons (o := { dst := some 101, op := Op.call { callee := Callee.value (Operand.func 10), args := #[Operand.tmp 96, Operand.tmp 100], argTypes := #[32, 32] }, type := 4, pos := "outright.go:77", after := #[{ on := 28, ground := Ground.data }, { on := 32, ground := Ground.data }, { on := 23, ground := Ground.chain }, { on := 23, ground := Ground.guard }], guard := some (23, true) }) rfl (fun K hK => ?_) AllReadyH.nil
            go_simp
            refine (ahead_any p x _).mono ?_
            rintro e w9 ⟨rfl, hb⟩
            rw [hAH.out]
            go_wp2_with fail
            refine hK.out _ _ (And.intro (FiredAt.below hHeld.1 hb) (And.intro (FiredAt.below hHeld.2.1 hb) (And.intro (FiredAt.below hHeld.2.2.1 hb) (hHeld.2.2.2.trans (hb.mono hHeld.2.2.2.size))))) (fun hHeld => ?_)
            clear hK K
            try simp only [Act.put, List.setIfInBounds_toArray, List.set_cons_zero, List.set_cons_succ]
            refine wpAnyH_take (i := 34) (oi := { dst := some 102, op := Op.unOp UnOp.not 4 (Operand.tmp 101), type := 4, pos := "outright.go:77", after := #[{ on := 33, ground := Ground.data }, { on := 23, ground := Ground.guard }], guard := some (23, true) }) (v := ?_) rfl (by kernel_rfl) (by kernel_rfl) (by kernel_rfl) (fun _ _ _ h => h) (Or.inl ⟨by rfl, ?_⟩) hHeld ?_
            rotate_left
            · intro w hSw
              clear hSw
              go_simp
              try with_reducible rfl
            try simp only [Act.put, List.setIfInBounds_toArray, List.set_cons_zero, List.set_cons_succ]
            refine wpAnyH_take (i := 35) (oi := { dst := some 103, op := Op.pick (Operand.tmp 91) (Operand.tmp 102) (Operand.const (Value.bool false)), type := 4, pos := "outright.go:77", after := #[{ on := 23, ground := Ground.data }, { on := 34, ground := Ground.data }, { on := 20, ground := Ground.guard }], guard := some (20, false) }) (v := ?_) rfl (by kernel_rfl) (by kernel_rfl) (by kernel_rfl) (fun _ _ _ h => h) (Or.inl ⟨by rfl, ?_⟩) hHeld ?_
            rotate_left
            · intro w hSw
              clear hSw
              go_simp
              try with_reducible rfl
            try simp only [Act.put, List.setIfInBounds_toArray, List.set_cons_zero, List.set_cons_succ]
            refine wpAnyH_take (i := 36) (oi := { dst := some 104, op := Op.pick (Operand.tmp 88) (Operand.const (Value.bool true)) (Operand.tmp 103), type := 4, pos := "outright.go:77", after := #[{ on := 20, ground := Ground.data }, { on := 35, ground := Ground.data }], guard := none }) (v := ?_) rfl (by kernel_rfl) (by kernel_rfl) (by kernel_rfl) (fun _ _ _ h => h) (Or.inl ⟨by rfl, ?_⟩) hHeld ?_
            rotate_left
            · intro w hSw
              clear hSw
              go_simp
              try with_reducible rfl
            try simp only [Act.put, List.setIfInBounds_toArray, List.set_cons_zero, List.set_cons_succ]
            refine wpAnyH_done (by kernel_rfl) ?_ _
            clear hwr
            go_wp2_with fail
            exact ⟨⟨j + 1, by omega, by go_num, hHeld.1, hHeld.2.1, hHeld.2.2.1, hHeld.2.2.2⟩, by simp [intOf] <;> omega⟩
        · obtain rfl : j = Z.length := by omega
          go_wp2_with fail
          refine (works_any _).mono ?_
          rintro e w7 ⟨rfl, hb⟩
          have HE := Lib.hid (HB2.out.trans (hb.mono HB2.out.size))
          clear hb
          go_wp2_with fail
          go_ret
          exact ⟨rfl, HE.out⟩
end Go.Proofs.Ytcgegaahdbnacaa
