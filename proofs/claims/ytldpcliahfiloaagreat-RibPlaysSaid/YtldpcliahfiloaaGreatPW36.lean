/-
  Several texts in one.
-/
import Derived.Test.YtldpcliahfiloaaGreatPW35
import Derived.Great.BuildSlice
import Derived.Great.FillDense
set_option linter.unusedVariables false
set_option linter.unusedSimpArgs false
namespace Go.Proofs.YtldpcliahfiloaaGreat
open Go.RowKit Go.MapKept Go.Shelf
open Go.Lib hiding intOf
open Go.Sort hiding Below
open Go.Maps (Keyed)

theorem OwnM.typ {w : World} {base C : Nat} {e : TypeId} {v : Value} {n : Nat} {xs : List Value} (h : OwnM w base e C v n xs) {i : Nat} (hi : v.ownBlock = some i) {cs : Array Value} {T : TypeId} {fr : Nat × Nat} (hc : w.heap[i]? = some (.cells cs T fr)) : T = e := by
  rcases h.2 with ⟨rfl, _⟩ | ⟨q, cap, cur, fr2, rfl, _, hq, _⟩
  · simp [Value.ownBlock] at hi
  · simp [Value.ownBlock] at hi
    subst hi
    rw [hq] at hc
    injection hc with hc
    injection hc with _ he _
    exact he.symm
/-- paths, as a slice of the call's own -/
def Td.pa (t : Td) : Array Value := pathAr t.k t.label t.a t.stale
def flatPh (L : List Td) : List Value := L.flatMap fun t => t.pa.toList
theorem flatPh_append (l m : List Td) : flatPh (l ++ m) = flatPh l ++ flatPh m := List.flatMap_append
structure PhsAt (w : World) (base : Nat) (v : Value) (L : List Td) : Prop where
  own : OwnM w base 64 29 v L.length (flatPh L)
  at_ : ∀ t ∈ L, AtO w base t.a
theorem PhsAt.below {w w' : World} {base : Nat} {v : Value} {L : List Td} (h : PhsAt w base v L) (hb : Below w.heap.size w w') : PhsAt w' base v L := ⟨OwnM.below h.own hb (Nat.le_refl _), fun t ht => AtO.below (h.at_ t ht) hb⟩
theorem info_small {P : Program} {T : TypeId} {n : Nat} (h : (P.info? T).map (fun i => (i.zero.map fun z => z.cells.size, i.size, decide (i.bytes ≤ 1000))) = some (some n, n, true)) : ∃ i z, P.info? T = some i ∧ i.zero = some z ∧ i.size = n ∧ z.cells.size = n ∧ i.bytes ≤ 1000 := by
  cases hq : P.info? T with
  | none => simp [hq] at h
  | some i =>
    simp only [hq, Option.map_some, Option.some.injEq, Prod.mk.injEq, decide_eq_true_eq] at h
    obtain ⟨h1, h2, h3⟩ := h
    cases hz : i.zero with
    | none => rw [hz] at h1; cases h1
    | some z =>
      rw [hz] at h1
      exact ⟨i, z, rfl, hz, h2, by simpa using h1, h3⟩
theorem infoPh : ∃ i z, Tryz.prog.info? 64 = some i ∧ i.zero = some z ∧ i.size = 29 ∧ z.cells.size = 29 ∧ i.bytes ≤ 1000 := info_small (by kernel_rfl)
theorem wp_build_path1 {o : Oper} {a : Act} {w : World} {K : Act → World → Prop} {Q : Exit → Act → World → Prop} (x : Operand) (ho : o.op = .buildSlice 25 1 #[(0, x)]) (t : Td) (hx : a.eval x = .agg t.pa)
    (h : K (a.put o.dst (.slice (some ⟨w.heap.size, 0, none⟩) 1 1)) (w.alloc (.cells t.pa 64))) : Oper.wp Tryz.prog o a w K Q := by
  obtain ⟨i0, z0, hi, hz, hz1, hz2, hz3⟩ := infoPh
  have e : ([Value.agg t.pa].flatMap fun v => v.cells.toList).toArray = t.pa := by
    simp [Value.cells]
  rw [← e] at h
  refine wp_buildSlice 25 64 1 _ ho _ i0 z0 Tryz.underlying25 hi hz (by rw [hz1]; omega) (by rw [hz1]; omega) ?_ h
  rw [hz1]
  have hv : ((#[(0, x)] : Array (Nat × Operand)).map fun (i, x) => (i, a.eval x)).toList = ([Value.agg t.pa].zipIdx 0).map fun x => (x.2, x.1) := by
    simp [hx]
  rw [hv]
  refine Great.fill_whole (s := 29) (by decide) [Value.agg t.pa] _ (fun v hv => ?_) ?_
  · rw [List.mem_singleton] at hv
    subst hv
    rfl
  · simp
/-- what All answers -/
def AllQ (M : List TdC) (O : List Pk) (L : List Td) : Prop := L.map (·.k) = O ∧ ∀ t ∈ L, t.c ∈ M
theorem AllQ.nil (M : List TdC) : AllQ M [] [] := ⟨rfl, fun x hx => by cases hx⟩
theorem AllQ.add {M : List TdC} {O : List Pk} {L : List Td} {j : Nat} {t : Td} (h : AllQ M (O.take j) L) (hk : O[j]? = some t.k) (ht : t.c ∈ M) : AllQ M (O.take (j + 1)) (L ++ [t]) := by
  refine ⟨?_, fun x hx => ?_⟩
  · rw [List.map_append, h.1, List.take_add_one, hk]
    rfl
  · rcases List.mem_append.1 hx with hx | hx
    · exact h.2 x hx
    · rw [List.mem_singleton] at hx
      subst hx
      exact ht
theorem AllQ.len {M : List TdC} {O : List Pk} {L : List Td} (h : AllQ M O L) : L.length = O.length := by rw [← h.1, List.length_map]
set_option maxRecDepth 100000 in
set_option maxHeartbeats 16000000 in
theorem rall_any {w : World} {base b m : Nat} {most : Int} {M : List TdC} (h : RibM w base b m most M) (fam : Int) :
    Calls Tryz.prog 6 #[.pointer (some ⟨b, 0, none⟩), .int .i64 fam] w fun e w' => (∃ ov L O, e = .returned ov ∧ PhsAt w' w.heap.size ov L ∧ OrdP O ∧ O.Perm ((M.filter fun t => decide (t.k.fam = fam) && true).map (·.k)) ∧ AllQ M O L) ∧ Below w.heap.size w w' := by
  obtain ⟨S, h, hM⟩ := h
  have N1 := h.ne
  obtain ⟨l0, l1⟩ := h.lt
  obtain ⟨i0, z0, hi0, hz0, hz1, hz2, hz3⟩ := infoPh
  have HBY := Lib.hid hz3
  have HP := Lib.hid (places_all w base b m most S h fam)
  have HQ : Hid (((S.filter (famF fam allQ)).map Td.k) = ((M.filter fun t => decide (t.k.fam = fam) && true).map (·.k))) := by
    show _ = _
    rw [← hM, List.filter_map, List.map_map]
    rfl
  have HSUB : Hid (∀ k ∈ (S.filter (famF fam allQ)).map Td.k, k ∈ S.map Td.k) := fun k hk => by
    obtain ⟨t, h1, h2⟩ := List.mem_map.1 hk
    exact List.mem_map.2 ⟨t, (List.mem_filter.1 h1).1, h2⟩
  have HM : Hid (S.map Td.c = M) := hM
  have HS0 := Lib.hid h
  clear h hM
  go_enter Tryz.func6, Tryz.ntmps6
  go_wp2_with fail
  refine HP.out.mono ?_
  rintro e w1 ⟨⟨v, O, rfl, h1, h2, h3⟩, hb⟩
  have HORD := Lib.hid h1
  have HLN : Hid (O.length ≤ 1000) := by
    show _ ≤ _
    rw [h2.length_eq, List.length_map]
    exact Nat.le_trans (List.length_filter_le _ _) HS0.out.len
  have HIN : Hid (∀ k ∈ O, k ∈ S.map Td.k) := fun k hk => HSUB.out k (h2.mem_iff.1 hk)
  have HPM : Hid (O.Perm ((M.filter fun t => decide (t.k.fam = fam) && true).map (·.k))) := by
    show List.Perm _ _
    rw [← HQ.out]
    exact h2
  have HR1 : Hid (RibAt w1 base b m most S) := HS0.out.below hb
  have HB1 : Hid (Below w.heap.size w w1) := hb
  have HO1 := Lib.hid h3
  obtain ⟨A2, c2, rfl⟩ := OwnM.form h3
  have hol := HLN.out
  clear h1 h2 h3 hb HP HS0 HQ HSUB
  go_wp2_with fail
  go_loopw [12, 5] (fun jv ov wr => ∃ (j : Nat) (L : List Td), jv = .int .i64 j ∧ j ≤ O.length ∧ Hid (RibAt wr base b m most S) ∧ Hid (PlsAt wr w.heap.size (.slice A2 O.length c2) O) ∧ Hid (PhsAt wr w.heap.size ov L) ∧ Hid (AllQ M (O.take j) L) ∧ Hid (Below w.heap.size w wr)) (fun jv _ _ => O.length + 1 - (intOf jv).toNat)
  case atStart => exact ⟨0, [], rfl, Nat.zero_le _, HR1.out, HO1.out, ⟨OwnM.nil _ _ _ _, fun t ht => by cases ht⟩, AllQ.nil _, HB1.out⟩
  case round =>
    clear HR1 HO1 HB1
    obtain ⟨j, L, rfl, hj, HR, HO, HT, HQ, HB⟩ := hrel
    obtain ⟨ov, hov⟩ : ∃ x, x = u5 := ⟨_, rfl⟩
    subst hov
    by_cases hlt : j < O.length
    · obtain ⟨k, hk⟩ : ∃ k, O[j]? = some k := ⟨O[j]'hlt, List.getElem?_eq_getElem _⟩
      obtain ⟨p, hp, hpk⟩ := List.mem_map.1 (HIN.out k (List.mem_of_getElem? hk))
      obtain ⟨jj, hjj⟩ := List.getElem?_of_mem hp
      have HADD : Hid (∀ a2 : Atr, a2.c = p.a.c → AllQ M (O.take (j + 1)) (L ++ [⟨k, p.label, a2, p.stale⟩])) := fun a2 ha => HQ.out.add (t := ⟨k, p.label, a2, p.stale⟩) hk (by
        rw [← HM.out]
        refine List.mem_map.2 ⟨p, hp, ?_⟩
        show TdC.mk p.k p.label p.a.c p.stale = TdC.mk k p.label a2.c p.stale
        rw [hpk, ha])
      have HTL : Hid (L.length ≤ 1000) := by
        show _ ≤ _
        rw [HQ.out.len, List.length_take]
        omega
      have HPJ : Hid ((tdL S)[jj]? = some (k.v, p.v)) := by
        show _ = _
        rw [← hpk]
        exact tdL_at hjj
      have hko := (HR.out.ok p hp).1
      rw [hpk] at hko
      obtain ⟨kl, hkl⟩ := pk_key k hko
      have HKL := Lib.hid hkl
      have HSZ : Hid (AtrSz p.a.c) := HR.out.sz p hp
      have HPS : Hid (p ∈ S) := hp
      obtain ⟨go, cap, hv, hg1, hg2, hg3, hg4, hg5, k0, k1, k2, k3, k4⟩ := HO.out.at_ hk
      injection hv with hv1 hv2 hv3
      subst hv1
      subst hv3
      unfold maxLen at hg4
      clear hkl hko hjj hpk hp hk hg1 hg2 hv2 HQ
      go_upto_region 5 with fail
      refine rb_name fun V hV => ?_
      have hv0 : Below wr.heap.size wr V := by rw [hV]; exact (Below.refl _ _).alloc (Nat.le_refl _) _
      have HRV : Hid (RibAt V base b m most S) := HR.out.below hv0
      have HAO : Hid (AtO V.drew base p.a) := AtO.below (HRV.out.own p HPS.out) (below_drewN (Below.refl _ _) 1)
      have HPV : Hid (PlsAt V w.heap.size (.slice (some ⟨go, 0, none⟩) O.length c2) O) := OwnM.below HO.out hv0 (Nat.le_refl _)
      have HOT : Hid (PhsAt V w.heap.size ov L) := HT.out.below hv0
      have HOV : Hid (OwnM V.drew w.heap.size 64 29 ov L.length (flatPh L)) := OwnM.below HOT.out.own (below_drewN (Below.refl _ _) 1) (Nat.le_refl _)
      have HBV : Hid (Below w.heap.size w V) := HB.out.trans (hv0.mono HB.out.size)
      have HWV : Hid (w.heap.size ≤ V.heap.size) := HBV.out.size
      obtain ⟨gp, hgp⟩ : ∃ gp, gp = wr.heap.size := ⟨_, rfl⟩
      have HKV : Hid (CellsAt V gp #[.int .i64 k.fam, .int .u64 k.rd, .string k.addr, .int .i64 k.len, .int .u32 (k.id : Nat)] 83) := by rw [hV, hgp]; exact CellsAt.new _ _ _
      have HOLO : Hid (∀ i, ov.ownBlock = some i → w.heap.size ≤ i) := fun i hi => (OwnM.lt HT.out.own i hi).1
      have HOHI : Hid (∀ i, ov.ownBlock = some i → i < gp) := fun i hi => by rw [hgp]; exact (OwnM.lt HT.out.own i hi).2
      rw [← hgp]
      clear hV k0 k1 k2 k3 k4 HR HO HB hgp HT hv0
      have HI : Hid ((fun w' => CellsAt w' b #[.int .i64 most, .map (some m)] 53 ∧ MapAt Tryz.prog 83 w' m (tdL S) ∧ CellsAt w' gp #[.int .i64 k.fam, .int .u64 k.rd, .string k.addr, .int .i64 k.len, .int .u32 (k.id : Nat)] 83 ∧ GrownX (fun i => ov.ownBlock = some i) V w') V.drew) := ⟨HRV.out.blk.drew 1, HRV.out.map.drew 1, HKV.out.drew 1, GrownX.of_below (below_drewN (Below.refl _ _) 1)⟩
      refine wp_region_held_drew (S := fun w' => CellsAt w' b #[.int .i64 most, .map (some m)] 53 ∧ MapAt Tryz.prog 83 w' m (tdL S) ∧ CellsAt w' gp #[.int .i64 k.fam, .int .u64 k.rd, .string k.addr, .int .i64 k.len, .int .u32 (k.id : Nat)] 83 ∧ GrownX (fun i => ov.ownBlock = some i) V w') (by kernel_rfl) (HI.out) (fun hHeld => ?_)
      refine wpAnyH_take (i := 0) (oi := { dst := some 16, op := Op.move (Operand.tmp 5), type := 25, pos := "adjin.go:107", after := #[], guard := none }) (v := ?_) rfl (by kernel_rfl) (by kernel_rfl) (by kernel_rfl) (fun _ _ _ h => h) (Or.inl ⟨by rfl, ?_⟩) hHeld ?_
      rotate_left
      · intro w hSw
        clear hSw
        go_simp
        try with_reducible rfl
      try simp only [Act.put, List.setIfInBounds_toArray, List.set_cons_zero, List.set_cons_succ]
      refine wpAnyH_take (i := 1) (oi := { dst := some 17, op := Op.load 83 (Operand.tmp 7), type := 83, pos := "adjin.go:107", after := #[], guard := none }) (v := ?_) rfl (by kernel_rfl) (by kernel_rfl) (by kernel_rfl) (fun _ _ _ h => h) (Or.inl ⟨by rfl, ?_⟩) hHeld ?_
      rotate_left
      · intro w hSw
        obtain ⟨q1, q2, q3, q4⟩ := hSw
        obtain ⟨c0, c1⟩ := q1.c2
        obtain ⟨k0, k1, k2, k3, k4⟩ := q3.c5
        go_simp
        try with_reducible rfl
      try simp only [Act.put, List.setIfInBounds_toArray, List.set_cons_zero, List.set_cons_succ]
      refine wpAnyH_take (i := 2) (oi := { dst := some 18, op := Op.move (Operand.tmp 0), type := 23, pos := "adjin.go:107", after := #[], guard := none }) (v := ?_) rfl (by kernel_rfl) (by kernel_rfl) (by kernel_rfl) (fun _ _ _ h => h) (Or.inl ⟨by rfl, ?_⟩) hHeld ?_
      rotate_left
      · intro w hSw
        clear hSw
        go_simp
        try with_reducible rfl
      try simp only [Act.put, List.setIfInBounds_toArray, List.set_cons_zero, List.set_cons_succ]
      refine wpAnyH_take (i := 3) (oi := { dst := some 19, op := Op.nilCheck (Operand.tmp 18), type := 0, pos := "adjin.go:107", after := #[{ on := 2, ground := Ground.data }], guard := none }) (v := ?_) rfl (by kernel_rfl) (by kernel_rfl) (by kernel_rfl) (fun _ _ _ h => h) (Or.inl ⟨by rfl, ?_⟩) hHeld ?_
      rotate_left
      · intro w hSw
        clear hSw
        go_simp
        try with_reducible rfl
      try simp only [Act.put, List.setIfInBounds_toArray, List.set_cons_zero, List.set_cons_succ]
      refine wpAnyH_take (i := 4) (oi := { dst := some 20, op := Op.fieldAddr 53 (Operand.tmp 19) 1, type := 0, pos := "adjin.go:107", after := #[{ on := 3, ground := Ground.data }], guard := none }) (v := ?_) rfl (by kernel_rfl) (by kernel_rfl) (by kernel_rfl) (fun _ _ _ h => h) (Or.inl ⟨by rfl, ?_⟩) hHeld ?_
      rotate_left
      · intro w hSw
        clear hSw
        go_simp
        try with_reducible rfl
      try simp only [Act.put, List.setIfInBounds_toArray, List.set_cons_zero, List.set_cons_succ]
      refine wpAnyH_take (i := 5) (oi := { dst := some 21, op := Op.load 51 (Operand.tmp 20), type := 51, pos := "adjin.go:107", after := #[{ on := 4, ground := Ground.data }], guard := none }) (v := ?_) rfl (by kernel_rfl) (by kernel_rfl) (by kernel_rfl) (fun _ _ _ h => h) (Or.inl ⟨by rfl, ?_⟩) hHeld ?_
      rotate_left
      · intro w hSw
        obtain ⟨q1, q2, q3, q4⟩ := hSw
        obtain ⟨c0, c1⟩ := q1.c2
        obtain ⟨k0, k1, k2, k3, k4⟩ := q3.c5
        go_simp
        try with_reducible rfl
      try simp only [Act.put, List.setIfInBounds_toArray, List.set_cons_zero, List.set_cons_succ]
      refine wpAnyH_take (i := 6) (oi := { dst := some 22, op := Op.load 83 (Operand.tmp 7), type := 83, pos := "adjin.go:107", after := #[], guard := none }) (v := ?_) rfl (by kernel_rfl) (by kernel_rfl) (by kernel_rfl) (fun _ _ _ h => h) (Or.inl ⟨by rfl, ?_⟩) hHeld ?_
      rotate_left
      · intro w hSw
        obtain ⟨q1, q2, q3, q4⟩ := hSw
        obtain ⟨c0, c1⟩ := q1.c2
        obtain ⟨k0, k1, k2, k3, k4⟩ := q3.c5
        go_simp
        try with_reducible rfl
      try simp only [Act.put, List.setIfInBounds_toArray, List.set_cons_zero, List.set_cons_succ]
      refine wpAnyH_take (i := 7) (oi := { dst := some 23, op := Op.lookup 51 (Operand.tmp 21) (Operand.tmp 22) false, type := 86, pos := "adjin.go:107", after := #[{ on := 5, ground := Ground.data }, { on := 6, ground := Ground.data }], guard := none }) (v := ?_) rfl (by kernel_rfl) (by kernel_rfl) (by kernel_rfl) (fun _ _ _ h => h) (Or.inl ⟨by rfl, ?_⟩) hHeld ?_
      rotate_left
      · intro w hSw
        obtain ⟨q1, q2, q3, q4⟩ := hSw
        have hlk := q2.lookup_some1 (t := 51) pkLaw Tryz.underlying51 (zero_td _) HKL.out HPJ.out
        unfold Pk.v at hlk
        go_simp
        try with_reducible rfl
      try simp only [Act.put, List.setIfInBounds_toArray, List.set_cons_zero, List.set_cons_succ]
      refine wpAnyH_ready (rs := [8]) (by kernel_rfl) (by simp) ?_
      refine AllReadyH.cons (o := { dst := some 24, op := Op.call { callee := Callee.value (Operand.func 30), args := #[Operand.tmp 17, Operand.tmp 23], argTypes := #[83, 86] }, type := 64, pos := "adjin.go:107", after := #[{ on := 1, ground := Ground.data }, { on := 7, ground := Ground.data }], guard := none }) rfl (fun K hK => ?_) AllReadyH.nil
      go_simp
      refine (apath_any k p _ HAO.out.ok HSZ.out).mono ?_
      rintro e w9 ⟨⟨a2, rfl, ho2, hc2⟩, hw9⟩
      refine hK.out _ _ (And.intro (hHeld.1.below hw9 hHeld.1.lt) (And.intro (hHeld.2.1.below hw9 hHeld.2.1.lt) (And.intro (hHeld.2.2.1.below hw9 hHeld.2.2.1.lt) (hHeld.2.2.2.trans (GrownX.of_below hw9))))) (fun hHeld => ?_)
      clear hK K
      try simp only [Act.put, List.setIfInBounds_toArray, List.set_cons_zero, List.set_cons_succ]
      refine wpAnyH_ready (rs := [9]) (by kernel_rfl) (by simp) ?_
      refine AllReadyH.cons (o := { dst := some 25, op := Op.buildSlice 25 1 #[(0, Operand.tmp 24)], type := 25, pos := "adjin.go:107", after := #[{ on := 8, ground := Ground.data }], guard := none }) rfl (fun K hK => ?_) AllReadyH.nil
      refine wp_build_path1 (.tmp 24) rfl ⟨k, p.label, a2, p.stale⟩ rfl ?_
      refine hK.out _ _ (And.intro (hHeld.1.alloc _) (And.intro (hHeld.2.1.alloc _) (And.intro (hHeld.2.2.1.alloc _) (hHeld.2.2.2.trans (GrownX.of_below ((Below.refl _ _).alloc (Nat.le_refl _) _)))))) (fun hHeld => ?_)
      clear hK K
      try simp only [Act.put, List.setIfInBounds_toArray, List.set_cons_zero, List.set_cons_succ]
      refine wpAnyH_ready (rs := [10]) (by kernel_rfl) (by simp) ?_
      refine AllReadyH.cons (o := { dst := some 26, op := Op.call { callee := Callee.builtin Builtin.append, args := #[Operand.tmp 16, Operand.tmp 25], argTypes := #[25, 25] }, type := 25, pos := "adjin.go:107", after := #[{ on := 0, ground := Ground.data }, { on := 9, ground := Ground.data }, { on := 8, ground := Ground.chain }], guard := none }) rfl (fun K hK => ?_) AllReadyH.nil
      have hzz := hw9.size
      refine wp_append_m (.tmp 16) (.tmp 25) 25 25 rfl w.heap.size 64 i0 z0 29 i0.bytes Tryz.underlying25 hi0 hz0 hz1 rfl hz2 ?b0 _ L.length (flatPh L) rfl ?b1 _ 1 (flatPh [⟨k, p.label, a2, p.stale⟩]) rfl ?b2 ?b3 ?b4 ?b5 ?b6
      case b0 => omega
      case b1 => exact OwnM.alloc (OwnM.below HOV.out hw9 (Nat.le_refl _)) _
      case b2 =>
        have e : flatPh [⟨k, p.label, a2, p.stale⟩] = (Td.pa ⟨k, p.label, a2, p.stale⟩).toList := by simp [flatPh]
        rw [e]
        exact Src.new (w := w9) (Td.pa ⟨k, p.label, a2, p.stale⟩) _ Tryz.underlying25 rfl (fun u hu => (Array.all_eq_true_iff_forall_mem.1 (path_ones k p.label a2 p.stale)) u (Array.mem_toList_iff.1 hu))
      case b3 => (have := HTL.out; unfold maxLen; omega)
      case b4 => exact Nat.le_trans (Nat.mul_le_mul (show L.length + 1 ≤ 1001 by have := HTL.out; omega) HBY.out) (by decide)
      case b5 =>
        have h1 := HWV.out
        have h2 : V.heap.size ≤ w9.heap.size := hzz
        rw [World.size_alloc]
        omega
      intro v' w5 hown hgr hat
      have hgx : GrownX (fun i => ov.ownBlock = some i) (w9.alloc (.cells (Td.pa ⟨k, p.label, a2, p.stale⟩) 64)) w5 := ⟨hgr.os, hgr.tape, hgr.output, hgr.size, fun i hi hx => hgr.block i hi (fun e => hx e.symm)⟩
      refine hK.out _ _ (And.intro (hHeld.1.grownX hgx (fun e => by have := HOLO.out _ e; omega)) (And.intro (hHeld.2.1.grownX hgx (fun e => by have := HOLO.out _ e; omega)) (And.intro (hHeld.2.2.1.grownX hgx (fun e => by have := HOHI.out _ e; omega)) (hHeld.2.2.2.trans hgx)))) (fun hHeld => ?_)
      clear hK K
      try simp only [Act.put, List.setIfInBounds_toArray, List.set_cons_zero, List.set_cons_succ]
      refine wpAnyH_take (i := 11) (oi := { dst := some 5, op := Op.assign (Operand.tmp 26), type := 25, pos := "adjin.go:107", after := #[{ on := 10, ground := Ground.data }, { on := 10, ground := Ground.chain }, { on := 0, ground := Ground.phase }, { on := 1, ground := Ground.phase }, { on := 2, ground := Ground.phase }, { on := 3, ground := Ground.phase }, { on := 4, ground := Ground.phase }, { on := 5, ground := Ground.phase }, { on := 6, ground := Ground.phase }, { on := 7, ground := Ground.phase }, { on := 8, ground := Ground.phase }, { on := 9, ground := Ground.phase }, { on := 10, ground := Ground.phase }], guard := none }) (v := ?_) rfl (by kernel_rfl) (by kernel_rfl) (by kernel_rfl) (fun _ _ _ h => h) (Or.inl ⟨by rfl, ?_⟩) hHeld ?_
      rotate_left
      · intro w hSw
        clear hSw
        go_simp
        try with_reducible rfl
      try simp only [Act.put, List.setIfInBounds_toArray, List.set_cons_zero, List.set_cons_succ]
      refine wpAnyH_done (by kernel_rfl) ?_ _
      have HF1 : Hid (GrownX (fun i => ov.ownBlock = some i) V w5) := hHeld.2.2.2
      have HF2 : Hid (PhsAt w5 w.heap.size v' (L ++ [⟨k, p.label, a2, p.stale⟩])) := by
        refine ⟨?_, fun t ht => ?_⟩
        · rw [flatPh_append, List.length_append]
          exact hown
        · rcases List.mem_append.1 ht with ht | ht
          · exact AtO.keepT (HOT.out.at_ t ht) HF1.out (fun i hi => OwnM.odd HOT.out.own i hi)
          · rw [List.mem_singleton] at ht
            subst ht
            have ha : AtO (w9.alloc (.cells (Td.pa ⟨k, p.label, a2, p.stale⟩) 64)) w.heap.size a2 := AtO.below (AtO.lower' ho2 HWV.out) ((Below.refl _ _).alloc (Nat.le_refl _) _)
            exact AtO.keepT ha hgx (fun i hi => OwnM.odd (OwnM.alloc (OwnM.below HOV.out hw9 (Nat.le_refl _)) _) i hi)
      have HADD2 := Lib.hid (HADD.out a2 hc2)
      clear hHeld hown hgr hat hgx HOV ho2 hc2 hw9 hzz HADD
      generalize L ++ [(⟨k, p.label, a2, p.stale⟩ : Td)] = L2 at HF2 HADD2
      have HRX : Hid (RibAt w5 base b m most S) := RibAt.keepT HRV.out HF1.out (fun e => by have := HOLO.out _ e; omega) (fun e => by have := HOLO.out _ e; omega) (fun i hi => OwnM.odd HOT.out.own i hi)
      have HPX : Hid (PlsAt w5 w.heap.size (.slice (some ⟨go, 0, none⟩) O.length c2) O) := OwnM.keepT HPV.out HF1.out (fun i hi cs fr hc => by have h1 := OwnM.typ HOT.out.own hi hc; exact absurd h1 (by decide))
      have HBX : Hid (Below w.heap.size w w5) := HF1.out.below HBV.out (fun i hi => HOLO.out i hi) HBV.out.size
      clear HF1 HRV HPV HBV HOT HKV HI HWV HOHI HOLO HAO
      go_wp2_with fail
      exact ⟨⟨j + 1, L2, by go_num, by omega, HRX.out, HPX.out, HF2.out, HADD2.out, HBX.out⟩, by simp [intOf]; omega⟩
    · have hje : j = O.length := by omega
      subst hje
      have HQ2 : Hid (AllQ M O L) := by
        have h := HQ.out
        rwa [List.take_length] at h
      clear HR HQ
      go_wp2_with fail
      go_ret
      exact ⟨⟨ov, L, O, rfl, HT.out, HORD.out, HPM.out, HQ2.out⟩, HB.out⟩
end Go.Proofs.YtldpcliahfiloaaGreat
