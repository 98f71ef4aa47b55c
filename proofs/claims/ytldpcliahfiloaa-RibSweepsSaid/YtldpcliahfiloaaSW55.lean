/-
  RibSweeps: for all lists and families the law answers true. Conditions: none of its own.
-/
import Derived.Test.YtldpcliahfiloaaSW54
set_option linter.unusedVariables false
set_option linter.unusedSimpArgs false
namespace Go.Proofs.Ytldpcliahfiloaa
open Go.RowKit Go.MapKept Go.Shelf
open Go.ChangeShapes Go.WideShapes Go.ChangeAt
open Go.ChangeMaps (open_string shut_string)
open Go.Lib hiding intOf
open Go.Sort hiding Below

theorem fam_of (z : Int) : ∃ n : Nat, 1 ≤ n ∧ n ≤ 5 ∧ wrap64 (1 + (wrap64 (z.tmod 5 + 5)).tmod 5) = n := by
  have h1 : -5 < z.tmod 5 ∧ z.tmod 5 < 5 := ⟨by have := Int.lt_tmod_of_pos z (show (0 : Int) < 5 by decide); omega, Int.tmod_lt_of_pos z (by decide)⟩
  have e1 : wrap64 (z.tmod 5 + 5) = z.tmod 5 + 5 := IntWalk.wrap64_in _ (by omega)
  have e2 : (z.tmod 5 + 5).tmod 5 = (z.tmod 5 + 5) % 5 := Int.tmod_eq_emod_of_nonneg (by omega)
  have e3 : wrap64 (1 + (z.tmod 5 + 5) % 5) = 1 + (z.tmod 5 + 5) % 5 := IntWalk.wrap64_in _ (by omega)
  refine ⟨(1 + (z.tmod 5 + 5) % 5).toNat, by omega, by omega, ?_⟩
  rw [e1, e2, e3]
  omega
theorem RibM.drew_ {w : World} {base b m : Nat} {most : Int} {M : List TdC} (h : RibM w base b m most M) : RibM w.drew base b m most M := by
  obtain ⟨S, h1, h2⟩ := h
  exact ⟨S, h1.drew 1, h2⟩
theorem RibM.keepX {w w' : World} {base b m : Nat} {most : Int} {M : List TdC} {X : Nat → Prop} (h : RibM w base b m most M) (hg : GrownX X w w') (hb : ¬ X b) (hm : ¬ X m) (hX : ∀ i, X i → ∀ cs T fr, w.heap[i]? ≠ some (.cells cs T fr)) : RibM w' base b m most M := by
  obtain ⟨S, h1, h2⟩ := h
  exact ⟨S, h1.keepX hg hb hm hX, h2⟩
theorem RibM.mapBlk {w : World} {base b m : Nat} {most : Int} {M : List TdC} (h : RibM w base b m most M) : ∀ cs T fr, w.heap[m]? ≠ some (.cells cs T fr) := by
  obtain ⟨S, h1, _⟩ := h
  exact h1.mapBlk
theorem RibM.oks {w : World} {base b m : Nat} {most : Int} {M : List TdC} (h : RibM w base b m most M) : ∀ t ∈ M, t.k.Ok ∧ t.label < 4294967296 := by
  obtain ⟨S, h1, rfl⟩ := h
  intro t ht
  obtain ⟨p, hp, rfl⟩ := List.mem_map.1 ht
  exact h1.ok p hp
theorem Nr.cs_len (x : Nr) : x.cs.length = 6 := rfl
/-- a list that a call made, as one that came in -/
theorem NlsAt.nrs {w : World} {base : Nat} {v : Value} {T : List Nr} (h : NlsAt w base v T) (hok : ∀ x ∈ T, x.Ok) : ∃ A c, v = .slice A T.length c ∧ NrsOk w A c T := by
  obtain ⟨A, c, e, hr, h1, h2⟩ := OwnL.rd (F := Nr.cs) Nr.cs_len (show OwnL w base _ 6 Nr.cs v T from h)
  exact ⟨A, c, e, hr, h1, h2, hok⟩
/-- what a sweep took -/
structure TakP (fam : Int) (M M5 : List TdC) (T : List Nr) : Prop where
  at_ : ∀ x ∈ T, ∃ t, getC M x.k = some t ∧ t.stale = true ∧ t.c.med = 1 ∧ t.k.fam = fam ∧ getC M5 x.k = none ∧ x.k.Ok
  next : ∀ i x y, T[i]? = some x → T[i + 1]? = some y → pcF x.k y.k ≤ 0 ∧ ((x.k.fam = y.k.fam ∧ x.k.rd = y.k.rd ∧ x.k.addr = y.k.addr ∧ x.k.len = y.k.len) → x.k.id < y.k.id)
theorem tak_of {fam : Int} {M : List TdC} {O : List Pk} {T : List Nr} (hk : KeysC M) (hok : ∀ t ∈ M, t.k.Ok ∧ t.label < 4294967296) (hf : Fresh2 fam M) (hs : OrdP O) (hO : O.Perm ((M.filter fun t => decide (t.k.fam = fam) && t.stale).map (·.k))) (hT : TakenQ M O T) : TakP fam M (delL O M) T := by
  refine ⟨fun x hx => ?_, fun i x y hx hy => ?_⟩
  · obtain ⟨t, ht, e, _⟩ := hT.2 x hx
    have hxO : x.k ∈ O := by rw [← hT.1]; exact List.mem_map.2 ⟨x, hx, rfl⟩
    have hq := (swept_iff hk hO ht).1 (by rw [e]; exact hxO)
    simp only [Bool.and_eq_true, decide_eq_true_eq] at hq
    refine ⟨t, by rw [← e]; exact getC_mem hk ht, hq.2, ((hf t ht).1 hq.2).2, hq.1, del_none hxO, by rw [← e]; exact (hok t ht).1⟩
  · refine ord_next ?_
    have h1 : O[i]? = some x.k := by rw [← hT.1, List.getElem?_map, hx]; rfl
    have h2 : O[i + 1]? = some y.k := by rw [← hT.1, List.getElem?_map, hy]; rfl
    obtain ⟨a1, a2⟩ := List.getElem?_eq_some_iff.1 h1
    obtain ⟨b1, b2⟩ := List.getElem?_eq_some_iff.1 h2
    have := List.pairwise_iff_getElem.1 hs i (i + 1) a1 b1 (by omega)
    rw [a2, b2] at this
    exact this
theorem taken_ok {M : List TdC} {O : List Pk} {T : List Nr} (hok : ∀ t ∈ M, t.k.Ok ∧ t.label < 4294967296) (hT : TakenQ M O T) : ∀ x ∈ T, x.Ok := fun x hx => by
  obtain ⟨t, ht, e, e2⟩ := hT.2 x hx
  exact ⟨by rw [← e]; exact (hok t ht).1, by rw [← e2]; exact (hok t ht).2⟩
/-- rows of a list of paths -/
theorem PhsAt.row {w : World} {base : Nat} {v : Value} {L : List Td} (h : PhsAt w base v L) {i : Nat} {t : Td} (hi : L[i]? = some t) :
    ∃ g c, v = .slice (some ⟨g, 0, none⟩) L.length c ∧ L.length ≤ c ∧ c ≤ maxLen ∧ ∀ W, Below w.heap.size w W → W.cell? ⟨g, i * 29 + 6 + 4, none⟩ = some (.int .u32 (t.a.med : Nat)) ∧ W.cell? ⟨g, i * 29 + 28, none⟩ = some (.bool t.stale) := by
  obtain ⟨hl, hti⟩ := List.getElem?_eq_some_iff.1 hi
  obtain ⟨g, cap, hv, hb, hg, hn, hc, hcell, _⟩ := OwnM.cells h.own (by omega)
  refine ⟨g, cap, hv, hn, hc, fun W hW => ?_⟩
  have hf : ∀ j u, t.pa.toList[j]? = some u → (flatPh L)[i * 29 + j]? = some u := fun j u hu => by
    have hj : j < 29 := (List.getElem?_eq_some_iff.1 hu).1
    have hs := List.take_append_drop i L
    have hlt : (L.take i).length = i := by rw [List.length_take]; omega
    have hfl : ∀ X : List Td, (flatPh X).length = X.length * 29 := fun X => by
      unfold flatPh
      induction X with
      | nil => rfl
      | cons x r ih => rw [List.flatMap_cons, List.length_append, ih, List.length_cons, Nat.succ_mul]; show 29 + _ = _; omega
    rw [← hs, flatPh_append, List.getElem?_append_right (by rw [hfl, hlt]; omega), hfl, hlt, Nat.add_sub_cancel_left, List.drop_eq_getElem_cons hl, hti]
    show (t.pa.toList ++ flatPh _)[j]? = _
    rw [List.getElem?_append_left (show j < t.pa.toList.length from hj)]
    exact hu
  have hcW : ∀ j u, t.pa.toList[j]? = some u → W.cell? ⟨g, i * 29 + j, none⟩ = some u := fun j u hu => by
    have := hcell _ _ (hf j u hu)
    rw [← this]
    unfold World.cell?
    rw [hW.block g hg]
  exact ⟨by rw [Nat.add_assoc]; exact hcW 10 _ rfl, hcW 28 _ rfl⟩
/-- what All answers behind a sweep -/
structure AllP (fam f : Int) (M5 : List TdC) (L : List Td) : Prop where
  len : L.length = cntC M5 f
  at_ : ∀ t ∈ L, t.stale = false ∧ (f = fam → t.a.med = 2)
theorem all_of {fam f : Int} {M M5 : List TdC} {O O' : List Pk} {L : List Td} (hl : Left fam M M5 O) (hk : KeysC M5) (hO : O'.Perm ((M5.filter fun t => decide (t.k.fam = f) && true).map (·.k))) (hA : AllQ M5 O' L) : AllP fam f M5 L := by
  refine ⟨?_, fun t ht => ?_⟩
  · rw [hA.len, hO.length_eq, List.length_map]
    unfold cntC
    simp only [Bool.and_true]
  · have hm := hA.2 t ht
    refine ⟨hl.stale _ hm, fun hf => hl.med _ hm ?_⟩
    have hx : t.c.k ∈ O' := by rw [← hA.1]; exact List.mem_map.2 ⟨t, ht, rfl⟩
    have hq := (swept_iff hk hO hm).1 hx
    simp only [Bool.and_true, decide_eq_true_eq] at hq
    rw [hq, hf]
theorem NrsOk.below {w w' : World} {A : Option Addr} {c : Nat} {L : List Nr} (h : NrsOk w A c L) (hb : Below w.heap.size w w') : NrsOk w' A c L := ⟨h.rd.below hb (Nat.le_refl _), h.len, h.cap, h.ok⟩
theorem NrsOk.rowAt {w : World} {b off c i : Nat} {L : List Nr} {x : Nr} (h : NrsOk w (some ⟨b, off, none⟩) c L) (hx : L[i]? = some x) : ∀ W, Below w.heap.size w W → W.cell? ⟨b, off + i * 6, none⟩ = some (.int .i64 x.k.fam) ∧ W.cell? ⟨b, off + i * 6 + 1, none⟩ = some (.int .u64 x.k.rd) ∧ W.cell? ⟨b, off + i * 6 + 2, none⟩ = some (.string x.k.addr) ∧ W.cell? ⟨b, off + i * 6 + 3, none⟩ = some (.int .i64 x.k.len) ∧ W.cell? ⟨b, off + i * 6 + 4, none⟩ = some (.int .u32 (x.k.id : Nat)) ∧ W.cell? ⟨b, off + i * 6 + 5, none⟩ = some (.int .u32 (x.label : Nat)) := by
  obtain ⟨b2, off2, e, _, h2⟩ := h.row hx (Nat.le_refl _)
  injection e with e
  injection e with e1 e2 _
  subst e1
  subst e2
  exact h2
theorem pk_no {x y : Pk} (h : ¬ (x.fam = y.fam ∧ x.rd = y.rd ∧ x.addr = y.addr ∧ x.len = y.len)) : x.fam = y.fam → x.rd = y.rd → x.addr.toList = y.addr.toList → ¬ x.len = y.len := fun h1 h2 h3 h4 => by
  have h5 : x.addr = y.addr := by
    rw [ByteArray.toList_eq, ByteArray.toList_eq] at h3
    exact ByteArray.ext (Array.ext' h3)
  exact h ⟨h1, h2, h5, h4⟩
theorem path_two {w : World} {g : Nat} {k : Pk} {l : Nat} {a : Atr} {s : Bool} (h : CellsAt w g (pathAr k l a s) 47) : w.cell? ⟨g, 0, none⟩ = some (.int .i64 k.fam) ∧ w.cell? ⟨g, 6 + 4, none⟩ = some (.int .u32 (a.med : Nat)) ∧ w.cell? ⟨g, 28, none⟩ = some (.bool s) :=
  ⟨(h.c 0).trans rfl, (h.c 10).trans rfl, (h.c 28).trans rfl⟩
theorem wp_region_eqD {P : Program} {id : Nat} {ops : Array Oper} {Q : Exit → Act → World → Prop} {a : Act} {w : World} (l : List Oper) (h : ops = l.toArray) (H : (Code.region id l.toArray true).wp P Q a w) : (Code.region id ops true).wp P Q a w := by
  subst h
  exact H
theorem get_fam {M : List TdC} {x : Pk} {t : TdC} (h : getC M x = some t) : t.k.fam = x.fam := by rw [(getC_some h).2]
set_option maxRecDepth 100000 in
set_option maxHeartbeats 16000000 in
theorem sweeps_walk (A1 A2 : Option Addr) (K1 K2 : List Nr) (ca cb : Nat) (z : Int) (w : World) (h1 : NrsOk w A1 ca K1) (h2 : NrsOk w A2 cb K2) :
    Calls Try.prog 5 #[.slice A1 K1.length ca, .slice A2 K2.length cb, .int .i64 z] w fun e w' => e = .returned (.bool true) ∧ Below w.heap.size w w' := by
  have hm1 := h1.len
  have hm2 := h1.cap
  have hm3 := h2.len
  have hm4 := h2.cap
  obtain ⟨N1, hN, hN1, hN2⟩ : ∃ N : Nat, min (K1.length : Int) 40 = (N : Int) ∧ N ≤ K1.length ∧ N ≤ 40 := ⟨min K1.length 40, by omega, by omega, by omega⟩
  obtain ⟨N2, hP, hP1, hP2⟩ : ∃ N : Nat, min (K2.length : Int) 40 = (N : Int) ∧ N ≤ K2.length ∧ N ≤ 40 := ⟨min K2.length 40, by omega, by omega, by omega⟩
  have HL1 := Lib.hid (h1.take hN1)
  have HL2 := Lib.hid (h2.take hP1)
  have hlnL1 : (K1.take N1).length = N1 := by rw [List.length_take]; omega
  have hlnL2 : (K2.take N2).length = N2 := by rw [List.length_take]; omega
  have hcapN : N1 ≤ ca := by omega
  have hcapP : N2 ≤ cb := by omega
  generalize K1.take N1 = L1 at HL1 hlnL1
  generalize K2.take N2 = L2 at HL2 hlnL2
  clear h1 h2
  have HWK := Lib.hid rworks_any
  obtain ⟨fam, hfa1, hfa2, hfa⟩ := fam_of z
  have HFA := Lib.hid hfa
  clear hfa
  have HNEW := Lib.hid (fun w => rnewM_any 0 w)
  go_enter Try.func5, Try.ntmps5
  go_wp2_with fail
  refine (HWK.out _).mono ?_
  rintro e w1 ⟨rfl, hb1⟩
  have HB1 : Hid (Below w.heap.size w w1) := hb1
  clear hb1
  go_upto_region 6 with fail
  rw [HFA.out]
  clear HFA
  go_wp2_with fail
  refine (HNEW.out _).mono ?_
  rintro e w2 ⟨b, m, rfl, hr, hb, hm, hbb⟩
  obtain ⟨bs, hbs⟩ : ∃ bs, bs = w1.heap.size := ⟨_, rfl⟩
  rw [← hbs] at hr
  have HM : Hid (w.heap.size ≤ m) := Nat.le_trans HB1.out.size hm
  have HR0 : Hid (RibM w2 bs b m 0 []) := hr
  have HB0 : Hid (Below w.heap.size w w2) := HB1.out.trans (hb.mono HB1.out.size)
  clear hbs hr hb hm hbb HB1 hN hP HNEW
  go_wp2_with fail
  go_loopw [8] (fun i wr => ∃ (n : Nat) (M : List TdC), i = .int .i64 n ∧ n ≤ N1 ∧ M.length ≤ 0 + n ∧ Hid (Fresh1 M) ∧ Hid (RibM wr bs b m 0 M) ∧ Hid (Below w.heap.size w wr)) (fun i _ => N1 + 1 - (intOf i).toNat)
  case atStart => exact ⟨0, [], rfl, by omega, Nat.zero_le _, fun t ht => by (cases ht), HR0.out, HB0.out⟩
  case round =>
    clear HR0 HB0
    obtain ⟨n, M, rfl, hn, hml, HF, HRwr, HBwr⟩ := hrel
    by_cases hlt : n < N1
    · as_aux_lemma =>
      obtain ⟨x, hx⟩ : ∃ x, L1[n]? = some x := ⟨L1[n]'(by rw [hlnL1]; exact hlt), List.getElem?_eq_getElem _⟩
      have HXOK := Lib.hid (HL1.out.ok x (List.mem_of_getElem? hx))
      obtain ⟨b0, off, rfl, hb0, hrow⟩ := HL1.out.row hx (Nat.le_refl _)
      obtain ⟨k, label⟩ := x
      dsimp only at hrow
      have HKO : Hid k.Ok := HXOK.out.k
      have HLA : Hid (label < 4294967296) := HXOK.out.label
      have HROW : Hid (∀ W, GrownX (fun i => i = m) wr W → W.cell? ⟨b0, off + n * 6, none⟩ = some (.int .i64 k.fam) ∧ W.cell? ⟨b0, off + n * 6 + 1, none⟩ = some (.int .u64 k.rd) ∧ W.cell? ⟨b0, off + n * 6 + 2, none⟩ = some (.string k.addr) ∧ W.cell? ⟨b0, off + n * 6 + 3, none⟩ = some (.int .i64 k.len) ∧ W.cell? ⟨b0, off + n * 6 + 4, none⟩ = some (.int .u32 (k.id : Nat)) ∧ W.cell? ⟨b0, off + n * 6 + 5, none⟩ = some (.int .u32 (label : Nat))) := fun W hW => hrow W (hW.below HBwr.out (fun i hi => by rw [hi]; exact HM.out) HBwr.out.size)
      clear hx hrow HXOK
      have HML := Lib.hid hml
      have HPUT : Hid (∀ W, RibM W bs b m 0 M → Calls Try.prog 10 #[.pointer (some ⟨b, 0, none⟩), .agg #[.int .i64 k.fam, .int .u64 k.rd, .string k.addr, .int .i64 k.len, .int .u32 (k.id : Nat), .int .u32 (label : Nat)], .agg (medA 1).ar] W fun e w' => (e = .returned (.tuple #[.bool false, .int .i64 (nlC (nlk k label))]) ∧ RibM w' bs b m 0 (putM 1 M k label)) ∧ GrownX (fun i => i = m) W w') := fun W h => (rputM_any h k label HKO.out HLA.out (medA 1) (medA_own W 0 (by decide)).ok (medC_sz 1) (by have := HML.out; omega)).mono fun e w' h2 => by
        have h3 := h2.1
        unfold PutPost at h3
        rw [medA_c, put_free] at h3
        exact ⟨h3, h2.2⟩
      have HOF : Hid (∀ W, Calls Try.prog 11 #[.int .u32 1] W fun e w' => e = .returned (.agg (medA 1).ar) ∧ Below W.heap.size W w') := fun W => of_any 1 W
      have HF2 : Hid (Fresh1 (putM 1 M k label)) := HF.out.put k label
      have HML2 : Hid ((putM 1 M k label).length ≤ 0 + (n + 1)) := by
        have h1 := HML.out
        have h2 : (putM 1 M k label).length ≤ M.length + 1 := putM_len
        show _ ≤ _
        omega
      generalize nlC (nlk k label) = cc at HPUT
      generalize putM 1 M k label = M2 at HPUT HF2 HML2
      clear HML hml HF
      obtain ⟨c0, c1, c2, c3, c4, c5⟩ := HROW.out wr (GrownX.refl _ _)
      go_upto_region 10 with fail
      refine wp_region_held_drew (S := fun w' => GrownX (fun i => i = m) wr w') (by kernel_rfl) ((GrownX.refl _ _).drew 1) (fun hHeld => ?_)
      refine wpAnyH_take (i := 0) (oi := { dst := some 45, op := Op.move (Operand.tmp 7), type := 25, pos := "outright.go:95", after := #[], guard := none }) (v := ?_) rfl (by kernel_rfl) (by kernel_rfl) (by kernel_rfl) (fun _ _ _ h => h) (Or.inl ⟨by rfl, ?_⟩) hHeld ?_
      rotate_left
      · intro w hSw
        clear hSw
        go_simp
        try with_reducible rfl
      try simp only [Act.put, List.setIfInBounds_toArray, List.set_cons_zero, List.set_cons_succ]
      refine wpAnyH_take (i := 1) (oi := { dst := some 46, op := Op.move (Operand.tmp 0), type := 22, pos := "outright.go:95", after := #[], guard := none }) (v := ?_) rfl (by kernel_rfl) (by kernel_rfl) (by kernel_rfl) (fun _ _ _ h => h) (Or.inl ⟨by rfl, ?_⟩) hHeld ?_
      rotate_left
      · intro w hSw
        clear hSw
        go_simp
        try with_reducible rfl
      try simp only [Act.put, List.setIfInBounds_toArray, List.set_cons_zero, List.set_cons_succ]
      refine wpAnyH_take (i := 2) (oi := { dst := some 47, op := Op.move (Operand.tmp 8), type := 3, pos := "outright.go:95", after := #[], guard := none }) (v := ?_) rfl (by kernel_rfl) (by kernel_rfl) (by kernel_rfl) (fun _ _ _ h => h) (Or.inl ⟨by rfl, ?_⟩) hHeld ?_
      rotate_left
      · intro w hSw
        clear hSw
        go_simp
        try with_reducible rfl
      try simp only [Act.put, List.setIfInBounds_toArray, List.set_cons_zero, List.set_cons_succ]
      refine wpAnyH_take (i := 3) (oi := { dst := some 48, op := Op.indexAddr 22 (Operand.tmp 46) (Operand.tmp 47), type := 0, pos := "outright.go:95", after := #[{ on := 1, ground := Ground.data }, { on := 2, ground := Ground.data }], guard := none }) (v := ?_) rfl (by kernel_rfl) (by kernel_rfl) (by kernel_rfl) (fun _ _ _ h => h) (Or.inl ⟨by rfl, ?_⟩) hHeld ?_
      rotate_left
      · intro w hSw
        clear hSw
        go_simp
        try with_reducible rfl
      try simp only [Act.put, List.setIfInBounds_toArray, List.set_cons_zero, List.set_cons_succ]
      refine wpAnyH_take (i := 4) (oi := { dst := some 49, op := Op.load 32 (Operand.tmp 48), type := 32, pos := "outright.go:95", after := #[{ on := 3, ground := Ground.data }], guard := none }) (v := ?_) rfl (by kernel_rfl) (by kernel_rfl) (by kernel_rfl) (fun _ _ _ h => h) (Or.inl ⟨by rfl, ?_⟩) hHeld ?_
      rotate_left
      · intro w hSw
        obtain ⟨c0, c1, c2, c3, c4, c5⟩ := HROW.out w hSw
        go_simp
        try with_reducible rfl
      try simp only [Act.put, List.setIfInBounds_toArray, List.set_cons_zero, List.set_cons_succ]
      refine wpAnyH_ready (rs := [5]) (by kernel_rfl) (by simp) ?_
      refine AllReadyH.cons (o := { dst := some 50, op := Op.call { callee := Callee.value (Operand.func 11), args := #[Operand.const (Value.int IntKind.u32 1)], argTypes := #[30] }, type := 41, pos := "outright.go:95", after := #[], guard := none }) rfl (fun K hK => ?_) AllReadyH.nil
      go_simp
      refine (HOF.out _).mono ?_
      rintro e w5 ⟨rfl, hw5⟩
      have HR5 := Lib.hid (HRwr.out.drew_.below hw5)
      refine hK.out _ _ (hHeld.trans (GrownX.of_below hw5)) (fun hHeld => ?_)
      clear hK K
      try simp only [Act.put, List.setIfInBounds_toArray, List.set_cons_zero, List.set_cons_succ]
      refine wpAnyH_ready (rs := [6]) (by kernel_rfl) (by simp) ?_
      refine AllReadyH.cons (o := { dst := some 51, op := Op.call { callee := Callee.value (Operand.func 10), args := #[Operand.tmp 45, Operand.tmp 49, Operand.tmp 50], argTypes := #[25, 32, 41] }, type := 34, pos := "outright.go:95", after := #[{ on := 0, ground := Ground.data }, { on := 4, ground := Ground.data }, { on := 5, ground := Ground.data }, { on := 5, ground := Ground.chain }], guard := none }) rfl (fun K hK => ?_) AllReadyH.nil
      go_simp
      refine (HPUT.out _ HR5.out).mono ?_
      rintro e w6 ⟨⟨rfl, hr6⟩, hg6⟩
      refine hK.out _ _ (hHeld.trans hg6) (fun hHeld => ?_)
      clear hK K
      try simp only [Act.put, List.setIfInBounds_toArray, List.set_cons_zero, List.set_cons_succ]
      refine wpAnyH_done (by kernel_rfl) ?_ _
      go_upto_region 9 with fail
      refine rb_name fun Z2 hZ2 => ?_
      have HRZ2 : Hid (RibM Z2 bs b m 0 M2) := by rw [hZ2]; exact hr6
      have HBZ2 : Hid (Below w.heap.size w Z2) := by rw [hZ2]; exact hHeld.below HBwr.out (fun i hi => by rw [hi]; exact HM.out) HBwr.out.size
      clear hZ2 hHeld hr6 hg6 HR5 hw5 HPUT HRwr HBwr
      go_wp2_with fail
      exact ⟨⟨n + 1, M2, by go_num, by omega, HML2.out, HF2.out, HRZ2.out, HBZ2.out⟩, by simp [intOf]; omega⟩
    · have hnN : N1 = n := by omega
      subst hnN
      have HCT := Lib.hid (rcountM_any HRwr.out fam)
      have HFS := HF
      clear HF
      go_wp2_with fail
      refine HCT.out.mono ?_
      rintro e w4 ⟨rfl, hb4⟩
      have HR4 := Lib.hid (HRwr.out.below hb4)
      have HB4 : Hid (Below w.heap.size w w4) := HBwr.out.trans (hb4.mono HBwr.out.size)
      clear hb4 HCT HRwr HBwr
      have HMK := Lib.hid (rmarkM_any HR4.out fam)
      go_wp2_with fail
      refine HMK.out.mono ?_
      rintro e w5 ⟨⟨rfl, h5⟩, g5⟩
      have HF2 : Hid (Fresh2 fam (markC fam M)) := Fresh2.mark HFS.out fam
      have hml2 : (markC fam M).length ≤ 40 := by rw [markC_len]; omega
      have HR0 : Hid (RibM w5 bs b m 0 (markC fam M)) := h5
      have HB0 : Hid (Below w.heap.size w w5) := g5.below HB4.out (fun i hi => by rw [hi]; exact HM.out) HB4.out.size
      generalize cntC M fam = ct
      generalize markC fam M = M0 at HF2 hml2 HR0
      clear h5 g5 HMK HR4 HB4 HFS hml hlnL1 HL1
      go_wp2_with fail
      go_loopw [10] (fun i wr => ∃ (n : Nat) (M : List TdC), i = .int .i64 n ∧ n ≤ N2 ∧ M.length ≤ 40 + n ∧ Hid (Fresh2 fam M) ∧ Hid (RibM wr bs b m 0 M) ∧ Hid (Below w.heap.size w wr)) (fun i _ => N2 + 1 - (intOf i).toNat)
      case atStart => exact ⟨0, M0, rfl, by omega, by omega, HF2.out, HR0.out, HB0.out⟩
      case round =>
        clear HR0 HB0
        obtain ⟨n, M, rfl, hn, hml, HF, HRwr, HBwr⟩ := hrel
        by_cases hlt : n < N2
        · as_aux_lemma =>
          obtain ⟨x, hx⟩ : ∃ x, L2[n]? = some x := ⟨L2[n]'(by rw [hlnL2]; exact hlt), List.getElem?_eq_getElem _⟩
          have HXOK := Lib.hid (HL2.out.ok x (List.mem_of_getElem? hx))
          obtain ⟨b0, off, rfl, hb0, hrow⟩ := HL2.out.row hx (Nat.le_refl _)
          obtain ⟨k, label⟩ := x
          dsimp only at hrow
          have HKO : Hid k.Ok := HXOK.out.k
          have HLA : Hid (label < 4294967296) := HXOK.out.label
          have HROW : Hid (∀ W, GrownX (fun i => i = m) wr W → W.cell? ⟨b0, off + n * 6, none⟩ = some (.int .i64 k.fam) ∧ W.cell? ⟨b0, off + n * 6 + 1, none⟩ = some (.int .u64 k.rd) ∧ W.cell? ⟨b0, off + n * 6 + 2, none⟩ = some (.string k.addr) ∧ W.cell? ⟨b0, off + n * 6 + 3, none⟩ = some (.int .i64 k.len) ∧ W.cell? ⟨b0, off + n * 6 + 4, none⟩ = some (.int .u32 (k.id : Nat)) ∧ W.cell? ⟨b0, off + n * 6 + 5, none⟩ = some (.int .u32 (label : Nat))) := fun W hW => hrow W (hW.below HBwr.out (fun i hi => by rw [hi]; exact HM.out) HBwr.out.size)
          clear hx hrow HXOK
          have HML := Lib.hid hml
          have HPUT : Hid (∀ W, RibM W bs b m 0 M → Calls Try.prog 10 #[.pointer (some ⟨b, 0, none⟩), .agg #[.int .i64 k.fam, .int .u64 k.rd, .string k.addr, .int .i64 k.len, .int .u32 (k.id : Nat), .int .u32 (label : Nat)], .agg (medA 2).ar] W fun e w' => (e = .returned (.tuple #[.bool false, .int .i64 (nlC (nlk k label))]) ∧ RibM w' bs b m 0 (putM 2 M k label)) ∧ GrownX (fun i => i = m) W w') := fun W h => (rputM_any h k label HKO.out HLA.out (medA 2) (medA_own W 0 (by decide)).ok (medC_sz 2) (by have := HML.out; omega)).mono fun e w' h2 => by
            have h3 := h2.1
            unfold PutPost at h3
            rw [medA_c, put_free] at h3
            exact ⟨h3, h2.2⟩
          have HOF : Hid (∀ W, Calls Try.prog 11 #[.int .u32 2] W fun e w' => e = .returned (.agg (medA 2).ar) ∧ Below W.heap.size W w') := fun W => of_any 2 W
          have HF2 : Hid (Fresh2 fam (putM 2 M k label)) := HF.out.put k label
          have HML2 : Hid ((putM 2 M k label).length ≤ 40 + (n + 1)) := by
            have h1 := HML.out
            have h2 : (putM 2 M k label).length ≤ M.length + 1 := putM_len
            show _ ≤ _
            omega
          generalize nlC (nlk k label) = cc at HPUT
          generalize putM 2 M k label = M2 at HPUT HF2 HML2
          clear HML hml HF
          obtain ⟨c0, c1, c2, c3, c4, c5⟩ := HROW.out wr (GrownX.refl _ _)
          go_upto_region 17 with fail
          refine wp_region_held_drew (S := fun w' => GrownX (fun i => i = m) wr w') (by kernel_rfl) ((GrownX.refl _ _).drew 1) (fun hHeld => ?_)
          refine wpAnyH_take (i := 0) (oi := { dst := some 66, op := Op.move (Operand.tmp 7), type := 25, pos := "outright.go:102", after := #[], guard := none }) (v := ?_) rfl (by kernel_rfl) (by kernel_rfl) (by kernel_rfl) (fun _ _ _ h => h) (Or.inl ⟨by rfl, ?_⟩) hHeld ?_
          rotate_left
          · intro w hSw
            clear hSw
            go_simp
            try with_reducible rfl
          try simp only [Act.put, List.setIfInBounds_toArray, List.set_cons_zero, List.set_cons_succ]
          refine wpAnyH_take (i := 1) (oi := { dst := some 67, op := Op.move (Operand.tmp 1), type := 22, pos := "outright.go:102", after := #[], guard := none }) (v := ?_) rfl (by kernel_rfl) (by kernel_rfl) (by kernel_rfl) (fun _ _ _ h => h) (Or.inl ⟨by rfl, ?_⟩) hHeld ?_
          rotate_left
          · intro w hSw
            clear hSw
            go_simp
            try with_reducible rfl
          try simp only [Act.put, List.setIfInBounds_toArray, List.set_cons_zero, List.set_cons_succ]
          refine wpAnyH_take (i := 2) (oi := { dst := some 68, op := Op.move (Operand.tmp 10), type := 3, pos := "outright.go:102", after := #[], guard := none }) (v := ?_) rfl (by kernel_rfl) (by kernel_rfl) (by kernel_rfl) (fun _ _ _ h => h) (Or.inl ⟨by rfl, ?_⟩) hHeld ?_
          rotate_left
          · intro w hSw
            clear hSw
            go_simp
            try with_reducible rfl
          try simp only [Act.put, List.setIfInBounds_toArray, List.set_cons_zero, List.set_cons_succ]
          refine wpAnyH_take (i := 3) (oi := { dst := some 69, op := Op.indexAddr 22 (Operand.tmp 67) (Operand.tmp 68), type := 0, pos := "outright.go:102", after := #[{ on := 1, ground := Ground.data }, { on := 2, ground := Ground.data }], guard := none }) (v := ?_) rfl (by kernel_rfl) (by kernel_rfl) (by kernel_rfl) (fun _ _ _ h => h) (Or.inl ⟨by rfl, ?_⟩) hHeld ?_
          rotate_left
          · intro w hSw
            clear hSw
            go_simp
            try with_reducible rfl
          try simp only [Act.put, List.setIfInBounds_toArray, List.set_cons_zero, List.set_cons_succ]
          refine wpAnyH_take (i := 4) (oi := { dst := some 70, op := Op.load 32 (Operand.tmp 69), type := 32, pos := "outright.go:102", after := #[{ on := 3, ground := Ground.data }], guard := none }) (v := ?_) rfl (by kernel_rfl) (by kernel_rfl) (by kernel_rfl) (fun _ _ _ h => h) (Or.inl ⟨by rfl, ?_⟩) hHeld ?_
          rotate_left
          · intro w hSw
            obtain ⟨c0, c1, c2, c3, c4, c5⟩ := HROW.out w hSw
            go_simp
            try with_reducible rfl
          try simp only [Act.put, List.setIfInBounds_toArray, List.set_cons_zero, List.set_cons_succ]
          refine wpAnyH_ready (rs := [5]) (by kernel_rfl) (by simp) ?_
          refine AllReadyH.cons (o := { dst := some 71, op := Op.call { callee := Callee.value (Operand.func 11), args := #[Operand.const (Value.int IntKind.u32 2)], argTypes := #[30] }, type := 41, pos := "outright.go:102", after := #[], guard := none }) rfl (fun K hK => ?_) AllReadyH.nil
          go_simp
          refine (HOF.out _).mono ?_
          rintro e w5 ⟨rfl, hw5⟩
          have HR5 := Lib.hid (HRwr.out.drew_.below hw5)
          refine hK.out _ _ (hHeld.trans (GrownX.of_below hw5)) (fun hHeld => ?_)
          clear hK K
          try simp only [Act.put, List.setIfInBounds_toArray, List.set_cons_zero, List.set_cons_succ]
          refine wpAnyH_ready (rs := [6]) (by kernel_rfl) (by simp) ?_
          refine AllReadyH.cons (o := { dst := some 72, op := Op.call { callee := Callee.value (Operand.func 10), args := #[Operand.tmp 66, Operand.tmp 70, Operand.tmp 71], argTypes := #[25, 32, 41] }, type := 34, pos := "outright.go:102", after := #[{ on := 0, ground := Ground.data }, { on := 4, ground := Ground.data }, { on := 5, ground := Ground.data }, { on := 5, ground := Ground.chain }], guard := none }) rfl (fun K hK => ?_) AllReadyH.nil
          go_simp
          refine (HPUT.out _ HR5.out).mono ?_
          rintro e w6 ⟨⟨rfl, hr6⟩, hg6⟩
          refine hK.out _ _ (hHeld.trans hg6) (fun hHeld => ?_)
          clear hK K
          try simp only [Act.put, List.setIfInBounds_toArray, List.set_cons_zero, List.set_cons_succ]
          refine wpAnyH_done (by kernel_rfl) ?_ _
          go_upto_region 16 with fail
          refine rb_name fun Z2 hZ2 => ?_
          have HRZ2 : Hid (RibM Z2 bs b m 0 M2) := by rw [hZ2]; exact hr6
          have HBZ2 : Hid (Below w.heap.size w Z2) := by rw [hZ2]; exact hHeld.below HBwr.out (fun i hi => by rw [hi]; exact HM.out) HBwr.out.size
          clear hZ2 hHeld hr6 hg6 HR5 hw5 HPUT HRwr HBwr
          go_wp2_with fail
          exact ⟨⟨n + 1, M2, by go_num, by omega, HML2.out, HF2.out, HRZ2.out, HBZ2.out⟩, by simp [intOf]; omega⟩
        · have hnN : N2 = n := by omega
          subst hnN
          as_aux_lemma =>
          have HFS := HF
          clear HF
          have HCP := Lib.hid (rcopyM_any HRwr.out)
          have HBy := HBwr
          have HRy := HRwr
          clear HBwr HRwr
          obtain ⟨wy, hwy⟩ : ∃ x, x = wr := ⟨_, rfl⟩
          subst hwy
          go_wp2_with fail
          refine HCP.out.mono ?_
          rintro e w4 ⟨⟨b2, m2, M2, rfl, hr2, hp2⟩, hb4⟩
          have HR4 := Lib.hid (HRy.out.below hb4)
          have HB4 : Hid (Below w.heap.size w w4) := HBy.out.trans (hb4.mono HBy.out.size)
          have HPM := Lib.hid hp2
          obtain ⟨bs2, hbs2⟩ : ∃ x, x = wy.heap.size := ⟨_, rfl⟩
          rw [← hbs2] at hr2
          have HRB4 : Hid (RibM w4 bs2 b2 m2 0 M2) := hr2
          have hne1 : b2 ≠ m := by have := HRy.out.lt.2.1; have := hr2.lt.2.2.1; omega
          have hne2 : m2 ≠ m := by have := HRy.out.lt.2.1; have := hr2.lt.2.2.2.1; omega
          have HNE1 := Lib.hid hne1
          have HNE2 := Lib.hid hne2
          clear hp2 hr2 hb4 hbs2 HCP HRy HBy hne1 hne2
          have HSW := Lib.hid (rsweep_any HR4.out fam)
          go_wp2_with fail
          refine HSW.out.mono ?_
          rintro e w5 ⟨⟨ov, T, O, rfl, hnl, hord, hperm, htk, hr5⟩, g5⟩
          have HRB : Hid (RibM w5 bs2 b2 m2 0 M2) := HRB4.out.keepX g5 (fun e => HNE1.out e) (fun e => HNE2.out e) (fun i hi => by rw [hi]; exact HR4.out.mapBlk)
          have HR5 : Hid (RibM w5 bs b m 0 (delL O M)) := hr5
          have HB5 : Hid (Below w.heap.size w w5) := g5.below HB4.out (fun i hi => by rw [hi]; exact HM.out) HB4.out.size
          have HKM := Lib.hid HR4.out.keys
          have HOK := Lib.hid HR4.out.oks
          have HTP : Hid (TakP fam M (delL O M) T) := tak_of HKM.out HOK.out HFS.out hord hperm htk
          have HLF : Hid (Left fam M (delL O M) O) := left_of HKM.out HFS.out hperm
          have hto : T.length = O.length := htk.len
          have HTL : Hid (O.length = T.length) := hto.symm
          obtain ⟨AT, cT, rfl, htn⟩ := hnl.nrs (taken_ok HOK.out htk)
          have HT : Hid (NrsOk w5 AT cT T) := htn
          have HGP : Hid (∀ x, getC M2 x = getC M x) := fun x => get_perm HPM.out HKM.out x
          have HCPM : Hid (∀ f, cntC M2 f = cntC M f) := fun f => cnt_perm HPM.out f
          have htc := htn.len
          have htm := htn.cap
          clear hnl hord hperm htk hr5 g5 HNE1 HNE2 HSW HR4 HB4 HRB4 HFS htn hto HKM HOK HPM
          have hm5l : (delL O M).length ≤ 100 := Nat.le_trans (List.length_filter_le ..) (by omega)
          generalize delL O M = M5 at HR5 HTP HLF hm5l
          have htl5 : T.length ≤ 100 := by
            have h1 := HLF.out.same
            have h2 : cntC M fam ≤ M.length := List.length_filter_le ..
            have h3 := HTL.out
            omega
          obtain ⟨Z, hZ⟩ : ∃ x, x = w5 := ⟨_, rfl⟩
          subst hZ
          clear hml hlnL2 HL2
          go_wp2_with fail
          go_loopw [13] (fun i wr => ∃ n : Nat, i = .int .i64 n ∧ n ≤ T.length ∧ Hid (Below Z.heap.size Z wr)) (fun i _ => T.length + 1 - (intOf i).toNat)
          case atStart => exact ⟨0, rfl, Nat.zero_le _, Below.refl _ _⟩
          case round =>
            obtain ⟨wq, hwq⟩ : ∃ x, x = wr := ⟨_, rfl⟩
            subst hwq
            obtain ⟨n, rfl, hn, HBwq⟩ := hrel
            by_cases hlt : n < T.length
            · as_aux_lemma =>
              obtain ⟨x0, hx⟩ : ∃ x, T[n]? = some x := ⟨T[n]'hlt, List.getElem?_eq_getElem _⟩
              obtain ⟨t, hg1, hst, hmed, htf, hg5, hkok⟩ := HTP.out.at_ _ (List.mem_of_getElem? hx)
              have HX := Lib.hid hx
              obtain ⟨b0, off, rfl, hb0, hrow⟩ := HT.out.row hx (Nat.le_refl _)
              obtain ⟨x, xl⟩ := x0
              dsimp only at hrow hg1 hg5 hkok
              have HROWI : Hid (∀ W, Below Z.heap.size Z W → W.cell? ⟨b0, off + n * 6, none⟩ = some (.int .i64 x.fam) ∧ W.cell? ⟨b0, off + n * 6 + 1, none⟩ = some (.int .u64 x.rd) ∧ W.cell? ⟨b0, off + n * 6 + 2, none⟩ = some (.string x.addr) ∧ W.cell? ⟨b0, off + n * 6 + 3, none⟩ = some (.int .i64 x.len) ∧ W.cell? ⟨b0, off + n * 6 + 4, none⟩ = some (.int .u32 (x.id : Nat)) ∧ W.cell? ⟨b0, off + n * 6 + 5, none⟩ = some (.int .u32 (xl : Nat))) := hrow
              obtain ⟨t2, lab, c, s⟩ := t
              dsimp only at hst hmed htf
              obtain rfl : s = true := hst
              have hxf : x.fam = fam := by rw [← get_fam hg1]; exact htf
              have hxk : t2 = x := (getC_some hg1).2
              have HG1 : Hid (∀ W, RibM W bs2 b2 m2 0 M2 → Calls Try.prog 13 #[.pointer (some ⟨b2, 0, none⟩), .agg #[.int .i64 x.fam, .int .u64 x.rd, .string x.addr, .int .i64 x.len], .int .u32 (x.id : Nat)] W fun e w' => (∃ a9 : Atr, e = .returned (.tuple #[.agg (pathAr x lab a9 true), .bool true]) ∧ a9.med = 1) ∧ Below W.heap.size W w') := fun W h => (rgetM_any h x hkok).mono fun e w' h2 => by
                obtain ⟨h3, h4⟩ := h2
                unfold GetPost at h3
                rw [HGP.out, hg1] at h3
                obtain ⟨a9, he, _, hc⟩ := h3
                exact ⟨⟨a9, he, by rw [← hmed, show a9.med = a9.c.med from rfl, hc]⟩, h4⟩
              have HG2 : Hid (∀ W, RibM W bs b m 0 M5 → Calls Try.prog 13 #[.pointer (some ⟨b, 0, none⟩), .agg #[.int .i64 x.fam, .int .u64 x.rd, .string x.addr, .int .i64 x.len], .int .u32 (x.id : Nat)] W fun e w' => (∃ a9 : Atr, e = .returned (.tuple #[.agg (pathAr noPk 0 a9 false), .bool false]) ∧ a9.med = 0) ∧ Below W.heap.size W w') := fun W h => (rgetM_any h x hkok).mono fun e w' h2 => by
                obtain ⟨h3, h4⟩ := h2
                unfold GetPost at h3
                rw [hg5] at h3
                exact ⟨⟨noAtr, h3, rfl⟩, h4⟩
              have HXF := Lib.hid hxf
              clear hg1 hg5 hmed htf hkok hxk hrow hxf hx
              have HRQ := Lib.hid (HRB.out.below HBwq.out)
              obtain ⟨c0, c1, c2, c3, c4, c5⟩ := HROWI.out wq HBwq.out
              go_upto_region 23 with fail
              go_cut [14, 15] (fun v8 v9 wx => ∃ (g : Nat) (a9 : Atr), v8 = .pointer (some ⟨g, 0, none⟩) ∧ v9 = .bool true ∧ Hid (CellsAt wx g (pathAr x lab a9 true) 47) ∧ Hid (a9.med = 1) ∧ Hid (Below wq.heap.size wq wx))
              case first =>
                refine wp_region_held_drew (S := fun w' => Below wq.heap.size wq w') (by kernel_rfl) (below_drewN (Below.refl _ _) 1) (fun hHeld => ?_)
                refine wpAnyH_take (i := 0) (oi := { dst := some 85, op := Op.move (Operand.tmp 11), type := 25, pos := "outright.go:107", after := #[], guard := none }) (v := ?_) rfl (by kernel_rfl) (by kernel_rfl) (by kernel_rfl) (fun _ _ _ h => h) (Or.inl ⟨by rfl, ?_⟩) hHeld ?_
                rotate_left
                · intro w hSw
                  clear hSw
                  go_simp
                  try with_reducible rfl
                try simp only [Act.put, List.setIfInBounds_toArray, List.set_cons_zero, List.set_cons_succ]
                refine wpAnyH_take (i := 1) (oi := { dst := some 86, op := Op.move (Operand.tmp 12), type := 22, pos := "outright.go:107", after := #[], guard := none }) (v := ?_) rfl (by kernel_rfl) (by kernel_rfl) (by kernel_rfl) (fun _ _ _ h => h) (Or.inl ⟨by rfl, ?_⟩) hHeld ?_
                rotate_left
                · intro w hSw
                  clear hSw
                  go_simp
                  try with_reducible rfl
                try simp only [Act.put, List.setIfInBounds_toArray, List.set_cons_zero, List.set_cons_succ]
                refine wpAnyH_take (i := 2) (oi := { dst := some 87, op := Op.move (Operand.tmp 13), type := 3, pos := "outright.go:107", after := #[], guard := none }) (v := ?_) rfl (by kernel_rfl) (by kernel_rfl) (by kernel_rfl) (fun _ _ _ h => h) (Or.inl ⟨by rfl, ?_⟩) hHeld ?_
                rotate_left
                · intro w hSw
                  clear hSw
                  go_simp
                  try with_reducible rfl
                try simp only [Act.put, List.setIfInBounds_toArray, List.set_cons_zero, List.set_cons_succ]
                refine wpAnyH_take (i := 3) (oi := { dst := some 88, op := Op.indexAddr 22 (Operand.tmp 86) (Operand.tmp 87), type := 0, pos := "outright.go:107", after := #[{ on := 1, ground := Ground.data }, { on := 2, ground := Ground.data }], guard := none }) (v := ?_) rfl (by kernel_rfl) (by kernel_rfl) (by kernel_rfl) (fun _ _ _ h => h) (Or.inl ⟨by rfl, ?_⟩) hHeld ?_
                rotate_left
                · intro w hSw
                  clear hSw
                  go_simp
                  try with_reducible rfl
                try simp only [Act.put, List.setIfInBounds_toArray, List.set_cons_zero, List.set_cons_succ]
                refine wpAnyH_take (i := 4) (oi := { dst := some 89, op := Op.fieldAddr 32 (Operand.tmp 88) 0, type := 0, pos := "outright.go:107", after := #[{ on := 3, ground := Ground.data }], guard := none }) (v := ?_) rfl (by kernel_rfl) (by kernel_rfl) (by kernel_rfl) (fun _ _ _ h => h) (Or.inl ⟨by rfl, ?_⟩) hHeld ?_
                rotate_left
                · intro w hSw
                  clear hSw
                  go_simp
                  try with_reducible rfl
                try simp only [Act.put, List.setIfInBounds_toArray, List.set_cons_zero, List.set_cons_succ]
                refine wpAnyH_take (i := 5) (oi := { dst := some 90, op := Op.load 29 (Operand.tmp 89), type := 29, pos := "outright.go:107", after := #[{ on := 4, ground := Ground.data }], guard := none }) (v := ?_) rfl (by kernel_rfl) (by kernel_rfl) (by kernel_rfl) (fun _ _ _ h => h) (Or.inl ⟨by rfl, ?_⟩) hHeld ?_
                rotate_left
                · intro w hSw
                  obtain ⟨c0, c1, c2, c3, c4, c5⟩ := HROWI.out w (HBwq.out.trans (hSw.mono HBwq.out.size))
                  go_simp
                  try with_reducible rfl
                try simp only [Act.put, List.setIfInBounds_toArray, List.set_cons_zero, List.set_cons_succ]
                refine wpAnyH_take (i := 6) (oi := { dst := some 91, op := Op.move (Operand.tmp 12), type := 22, pos := "outright.go:107", after := #[], guard := none }) (v := ?_) rfl (by kernel_rfl) (by kernel_rfl) (by kernel_rfl) (fun _ _ _ h => h) (Or.inl ⟨by rfl, ?_⟩) hHeld ?_
                rotate_left
                · intro w hSw
                  clear hSw
                  go_simp
                  try with_reducible rfl
                try simp only [Act.put, List.setIfInBounds_toArray, List.set_cons_zero, List.set_cons_succ]
                refine wpAnyH_take (i := 7) (oi := { dst := some 92, op := Op.move (Operand.tmp 13), type := 3, pos := "outright.go:107", after := #[], guard := none }) (v := ?_) rfl (by kernel_rfl) (by kernel_rfl) (by kernel_rfl) (fun _ _ _ h => h) (Or.inl ⟨by rfl, ?_⟩) hHeld ?_
                rotate_left
                · intro w hSw
                  clear hSw
                  go_simp
                  try with_reducible rfl
                try simp only [Act.put, List.setIfInBounds_toArray, List.set_cons_zero, List.set_cons_succ]
                refine wpAnyH_take (i := 8) (oi := { dst := some 93, op := Op.indexAddr 22 (Operand.tmp 91) (Operand.tmp 92), type := 0, pos := "outright.go:107", after := #[{ on := 6, ground := Ground.data }, { on := 7, ground := Ground.data }], guard := none }) (v := ?_) rfl (by kernel_rfl) (by kernel_rfl) (by kernel_rfl) (fun _ _ _ h => h) (Or.inl ⟨by rfl, ?_⟩) hHeld ?_
                rotate_left
                · intro w hSw
                  clear hSw
                  go_simp
                  try with_reducible rfl
                try simp only [Act.put, List.setIfInBounds_toArray, List.set_cons_zero, List.set_cons_succ]
                refine wpAnyH_take (i := 9) (oi := { dst := some 94, op := Op.fieldAddr 32 (Operand.tmp 93) 1, type := 0, pos := "outright.go:107", after := #[{ on := 8, ground := Ground.data }], guard := none }) (v := ?_) rfl (by kernel_rfl) (by kernel_rfl) (by kernel_rfl) (fun _ _ _ h => h) (Or.inl ⟨by rfl, ?_⟩) hHeld ?_
                rotate_left
                · intro w hSw
                  clear hSw
                  go_simp
                  try with_reducible rfl
                try simp only [Act.put, List.setIfInBounds_toArray, List.set_cons_zero, List.set_cons_succ]
                refine wpAnyH_take (i := 10) (oi := { dst := some 95, op := Op.load 30 (Operand.tmp 94), type := 30, pos := "outright.go:107", after := #[{ on := 9, ground := Ground.data }], guard := none }) (v := ?_) rfl (by kernel_rfl) (by kernel_rfl) (by kernel_rfl) (fun _ _ _ h => h) (Or.inl ⟨by rfl, ?_⟩) hHeld ?_
                rotate_left
                · intro w hSw
                  obtain ⟨c0, c1, c2, c3, c4, c5⟩ := HROWI.out w (HBwq.out.trans (hSw.mono HBwq.out.size))
                  go_simp
                  try with_reducible rfl
                try simp only [Act.put, List.setIfInBounds_toArray, List.set_cons_zero, List.set_cons_succ]
                refine wpAnyH_ready (rs := [11, 15]) (by kernel_rfl) (by simp) ?_
                refine AllReadyH.cons (o := { dst := some 96, op := Op.call { callee := Callee.value (Operand.func 13), args := #[Operand.tmp 85, Operand.tmp 90, Operand.tmp 95], argTypes := #[25, 29, 30] }, type := 48, pos := "outright.go:107", after := #[{ on := 0, ground := Ground.data }, { on := 5, ground := Ground.data }, { on := 10, ground := Ground.data }], guard := none }) rfl (fun K hK => ?_) ?_
                · go_simp
                  refine (HG1.out _ (HRQ.out.drew_)).mono ?_
                  rintro e w9 ⟨⟨a9, rfl, hfa⟩, hw9⟩
                  have HFA9 : Hid (a9.med = 1) := hfa
                  have HG9 : Hid (Below wq.heap.size wq w9) := hHeld.trans (hw9.mono hHeld.size)
                  clear hfa
                  refine hK.out _ _ HG9.out (fun hHeld => ?_)
                  clear hK K
                  try simp only [Act.put, List.setIfInBounds_toArray, List.set_cons_zero, List.set_cons_succ]
                  refine wpAnyH_take (i := 12) (oi := { dst := some 84, op := Op.move (Operand.tmp 96), type := 48, pos := "outright.go:107", after := #[{ on := 11, ground := Ground.data }], guard := none }) (v := ?_) rfl (by kernel_rfl) (by kernel_rfl) (by kernel_rfl) (fun _ _ _ h => h) (Or.inl ⟨by rfl, ?_⟩) hHeld ?_
                  rotate_left
                  · intro w hSw
                    clear hSw
                    go_simp
                    try with_reducible rfl
                  try simp only [Act.put, List.setIfInBounds_toArray, List.set_cons_zero, List.set_cons_succ]
                  refine wpAnyH_take (i := 13) (oi := { dst := some 97, op := Op.extract (Operand.tmp 84) 0, type := 47, pos := "outright.go:107", after := #[{ on := 12, ground := Ground.data }], guard := none }) (v := ?_) rfl (by kernel_rfl) (by kernel_rfl) (by kernel_rfl) (fun _ _ _ h => h) (Or.inl ⟨by rfl, ?_⟩) hHeld ?_
                  rotate_left
                  · intro w hSw
                    clear hSw
                    go_simp
                    try with_reducible rfl
                  try simp only [Act.put, List.setIfInBounds_toArray, List.set_cons_zero, List.set_cons_succ]
                  refine wpAnyH_take (i := 14) (oi := { dst := some 98, op := Op.extract (Operand.tmp 84) 1, type := 4, pos := "outright.go:107", after := #[{ on := 12, ground := Ground.data }, { on := 16, ground := Ground.gcOnly Departure.lateStores }], guard := none }) (v := ?_) rfl (by kernel_rfl) (by kernel_rfl) (by kernel_rfl) (fun _ _ _ h => h) (Or.inl ⟨by rfl, ?_⟩) hHeld ?_
                  rotate_left
                  · intro w hSw
                    clear hSw
                    go_simp
                    try with_reducible rfl
                  try simp only [Act.put, List.setIfInBounds_toArray, List.set_cons_zero, List.set_cons_succ]
                  have HNx9 : Hid (∀ cs : Array Value, CellsAt (w9.alloc (.cells cs 47)) w9.heap.size cs 47) := fun cs => CellsAt.new _ _ _
                  have hb9 : ∀ cs : Array Value, Below w9.heap.size w9 ((w9.alloc (.cells cs 47)).setRow w9.heap.size (pathAr x lab a9 true)) := fun cs => ((Below.refl _ _).alloc (Nat.le_refl _) _).grown (grown_setRow' _ _ _) (by simp) (fun q hq => by cases hq; exact Nat.le_refl _)
                  have HGSx9 : Hid (∀ cs : Array Value, Below wq.heap.size wq ((w9.alloc (.cells cs 47)).setRow w9.heap.size (pathAr x lab a9 true))) := fun cs => HG9.out.trans ((hb9 cs).mono HG9.out.size)
                  clear hb9
                  refine wpAnyH_ready (rs := [15]) (by kernel_rfl) (by simp) ?_
                  refine AllReadyH.cons (o := { dst := some 14, op := Op.alloc 47, type := 0, pos := "outright.go:107", after := #[], guard := none }) rfl (fun K hK => ?_) AllReadyH.nil
                  go_simp
                  refine hK.out _ _ (HG9.out.trans (((Below.refl _ _).alloc (Nat.le_refl _) _).mono HG9.out.size)) (fun hHeld => ?_)
                  clear hK K
                  try simp only [Act.put, List.setIfInBounds_toArray, List.set_cons_zero, List.set_cons_succ]
                  refine wpAnyH_ready (rs := [16]) (by kernel_rfl) (by simp) ?_
                  refine AllReadyH.cons (o := { dst := none, op := Op.store 47 (Operand.tmp 14) (Operand.tmp 97), type := 0, pos := "outright.go:107", after := #[{ on := 15, ground := Ground.data }, { on := 13, ground := Ground.data }, { on := 11, ground := Ground.chain }, { on := 0, ground := Ground.phase }, { on := 1, ground := Ground.phase }, { on := 2, ground := Ground.phase }, { on := 3, ground := Ground.phase }, { on := 4, ground := Ground.phase }, { on := 5, ground := Ground.phase }, { on := 6, ground := Ground.phase }, { on := 7, ground := Ground.phase }, { on := 8, ground := Ground.phase }, { on := 9, ground := Ground.phase }, { on := 10, ground := Ground.phase }, { on := 11, ground := Ground.phase }, { on := 12, ground := Ground.phase }, { on := 13, ground := Ground.phase }, { on := 14, ground := Ground.textOnly Departure.lateStores }, { on := 15, ground := Ground.phase }], guard := none }) rfl (fun K hK => ?_) AllReadyH.nil
                  refine wp_store_row 47 (.tmp 14) (.tmp 97) rfl w9.heap.size (pathAr x lab a9 true) rfl rfl 47 _ (HNx9.out _) (by rw [path_size]; rfl) rfl (path_ones _ _ _ _) ?_
                  refine hK.out _ _ (HGSx9.out _) (fun hHeld => ?_)
                  clear hK K
                  try simp only [Act.put, List.setIfInBounds_toArray, List.set_cons_zero, List.set_cons_succ]
                  refine wpAnyH_take (i := 17) (oi := { dst := some 15, op := Op.assign (Operand.tmp 98), type := 4, pos := "outright.go:107", after := #[{ on := 14, ground := Ground.data }, { on := 16, ground := Ground.chain }, { on := 0, ground := Ground.phase }, { on := 1, ground := Ground.phase }, { on := 2, ground := Ground.phase }, { on := 3, ground := Ground.phase }, { on := 4, ground := Ground.phase }, { on := 5, ground := Ground.phase }, { on := 6, ground := Ground.phase }, { on := 7, ground := Ground.phase }, { on := 8, ground := Ground.phase }, { on := 9, ground := Ground.phase }, { on := 10, ground := Ground.phase }, { on := 11, ground := Ground.phase }, { on := 12, ground := Ground.phase }, { on := 13, ground := Ground.phase }, { on := 14, ground := Ground.phase }, { on := 15, ground := Ground.phase }, { on := 16, ground := Ground.phase }], guard := none }) (v := ?_) rfl (by kernel_rfl) (by kernel_rfl) (by kernel_rfl) (fun _ _ _ h => h) (Or.inl ⟨by rfl, ?_⟩) hHeld ?_
                  rotate_left
                  · intro w hSw
                    clear hSw
                    go_simp
                    try with_reducible rfl
                  try simp only [Act.put, List.setIfInBounds_toArray, List.set_cons_zero, List.set_cons_succ]
                  refine wpAnyH_done (by kernel_rfl) ?_ _
                  have HF1 := Lib.hid (fun cs => (HNx9.out cs).setRow' (pathAr x lab a9 true))
                  clear hHeld
                  go_wp2_with fail
                  go_meet
                  exact ⟨_, a9, rfl, rfl, HF1.out _, HFA9.out, HGSx9.out _⟩
                · refine AllReadyH.cons (o := { dst := some 14, op := Op.alloc 47, type := 0, pos := "outright.go:107", after := #[], guard := none }) rfl (fun K hK => ?_) AllReadyH.nil
                  go_simp
                  have HNB : Hid (∀ cs : Array Value, CellsAt (wq.drew.alloc (.cells cs 47)) wq.heap.size cs 47) := fun cs => CellsAt.new wq.drew _ _
                  have hbB : ∀ cs : Array Value, Below wq.drew.heap.size wq.drew (wq.drew.alloc (.cells cs 47)) := fun cs => (Below.refl _ _).alloc (Nat.le_refl _) _
                  have HRB : Hid (∀ cs : Array Value, RibM (wq.drew.alloc (.cells cs 47)) bs2 b2 m2 0 M2) := fun cs => HRQ.out.drew_.below (hbB cs)
                  refine hK.out _ _ (hHeld.trans ((hbB _).mono hHeld.size)) (fun hHeld => ?_)
                  clear hK K hbB
                  try simp only [Act.put, List.setIfInBounds_toArray, List.set_cons_zero, List.set_cons_succ]
                  refine wpAnyH_ready (rs := [11]) (by kernel_rfl) (by simp) ?_
                  refine AllReadyH.cons (o := { dst := some 96, op := Op.call { callee := Callee.value (Operand.func 13), args := #[Operand.tmp 85, Operand.tmp 90, Operand.tmp 95], argTypes := #[25, 29, 30] }, type := 48, pos := "outright.go:107", after := #[{ on := 0, ground := Ground.data }, { on := 5, ground := Ground.data }, { on := 10, ground := Ground.data }], guard := none }) rfl (fun K hK => ?_) AllReadyH.nil
                  go_simp
                  refine (HG1.out _ (HRB.out _)).mono ?_
                  rintro e w9 ⟨⟨a9, rfl, hfa⟩, hw9⟩
                  have HFA9 : Hid (a9.med = 1) := hfa
                  have HG9 : Hid (Below wq.heap.size wq w9) := hHeld.trans (hw9.mono hHeld.size)
                  clear hfa
                  refine hK.out _ _ HG9.out (fun hHeld => ?_)
                  clear hK K
                  try simp only [Act.put, List.setIfInBounds_toArray, List.set_cons_zero, List.set_cons_succ]
                  refine wpAnyH_take (i := 12) (oi := { dst := some 84, op := Op.move (Operand.tmp 96), type := 48, pos := "outright.go:107", after := #[{ on := 11, ground := Ground.data }], guard := none }) (v := ?_) rfl (by kernel_rfl) (by kernel_rfl) (by kernel_rfl) (fun _ _ _ h => h) (Or.inl ⟨by rfl, ?_⟩) hHeld ?_
                  rotate_left
                  · intro w hSw
                    clear hSw
                    go_simp
                    try with_reducible rfl
                  try simp only [Act.put, List.setIfInBounds_toArray, List.set_cons_zero, List.set_cons_succ]
                  refine wpAnyH_take (i := 13) (oi := { dst := some 97, op := Op.extract (Operand.tmp 84) 0, type := 47, pos := "outright.go:107", after := #[{ on := 12, ground := Ground.data }], guard := none }) (v := ?_) rfl (by kernel_rfl) (by kernel_rfl) (by kernel_rfl) (fun _ _ _ h => h) (Or.inl ⟨by rfl, ?_⟩) hHeld ?_
                  rotate_left
                  · intro w hSw
                    clear hSw
                    go_simp
                    try with_reducible rfl
                  try simp only [Act.put, List.setIfInBounds_toArray, List.set_cons_zero, List.set_cons_succ]
                  refine wpAnyH_take (i := 14) (oi := { dst := some 98, op := Op.extract (Operand.tmp 84) 1, type := 4, pos := "outright.go:107", after := #[{ on := 12, ground := Ground.data }, { on := 16, ground := Ground.gcOnly Departure.lateStores }], guard := none }) (v := ?_) rfl (by kernel_rfl) (by kernel_rfl) (by kernel_rfl) (fun _ _ _ h => h) (Or.inl ⟨by rfl, ?_⟩) hHeld ?_
                  rotate_left
                  · intro w hSw
                    clear hSw
                    go_simp
                    try with_reducible rfl
                  try simp only [Act.put, List.setIfInBounds_toArray, List.set_cons_zero, List.set_cons_succ]
                  have HC9 := Lib.hid ((HNB.out _).below hw9 (HNB.out _).lt)
                  have HGS9 : Hid (Below wq.heap.size wq (w9.setRow wq.heap.size (pathAr x lab a9 true))) := HG9.out.grown (grown_setRow' w9 wq.heap.size (pathAr x lab a9 true)) HG9.out.size (fun q hq => by cases hq; exact Nat.le_refl _)
                  refine wpAnyH_ready (rs := [16]) (by kernel_rfl) (by simp) ?_
                  refine AllReadyH.cons (o := { dst := none, op := Op.store 47 (Operand.tmp 14) (Operand.tmp 97), type := 0, pos := "outright.go:107", after := #[{ on := 15, ground := Ground.data }, { on := 13, ground := Ground.data }, { on := 11, ground := Ground.chain }, { on := 0, ground := Ground.phase }, { on := 1, ground := Ground.phase }, { on := 2, ground := Ground.phase }, { on := 3, ground := Ground.phase }, { on := 4, ground := Ground.phase }, { on := 5, ground := Ground.phase }, { on := 6, ground := Ground.phase }, { on := 7, ground := Ground.phase }, { on := 8, ground := Ground.phase }, { on := 9, ground := Ground.phase }, { on := 10, ground := Ground.phase }, { on := 11, ground := Ground.phase }, { on := 12, ground := Ground.phase }, { on := 13, ground := Ground.phase }, { on := 14, ground := Ground.textOnly Departure.lateStores }, { on := 15, ground := Ground.phase }], guard := none }) rfl (fun K hK => ?_) AllReadyH.nil
                  refine wp_store_row 47 (.tmp 14) (.tmp 97) rfl wq.heap.size (pathAr x lab a9 true) rfl rfl 47 _ HC9.out (by rw [path_size]; rfl) rfl (path_ones _ _ _ _) ?_
                  refine hK.out _ _ (HGS9.out) (fun hHeld => ?_)
                  clear hK K
                  try simp only [Act.put, List.setIfInBounds_toArray, List.set_cons_zero, List.set_cons_succ]
                  refine wpAnyH_take (i := 17) (oi := { dst := some 15, op := Op.assign (Operand.tmp 98), type := 4, pos := "outright.go:107", after := #[{ on := 14, ground := Ground.data }, { on := 16, ground := Ground.chain }, { on := 0, ground := Ground.phase }, { on := 1, ground := Ground.phase }, { on := 2, ground := Ground.phase }, { on := 3, ground := Ground.phase }, { on := 4, ground := Ground.phase }, { on := 5, ground := Ground.phase }, { on := 6, ground := Ground.phase }, { on := 7, ground := Ground.phase }, { on := 8, ground := Ground.phase }, { on := 9, ground := Ground.phase }, { on := 10, ground := Ground.phase }, { on := 11, ground := Ground.phase }, { on := 12, ground := Ground.phase }, { on := 13, ground := Ground.phase }, { on := 14, ground := Ground.phase }, { on := 15, ground := Ground.phase }, { on := 16, ground := Ground.phase }], guard := none }) (v := ?_) rfl (by kernel_rfl) (by kernel_rfl) (by kernel_rfl) (fun _ _ _ h => h) (Or.inl ⟨by rfl, ?_⟩) hHeld ?_
                  rotate_left
                  · intro w hSw
                    clear hSw
                    go_simp
                    try with_reducible rfl
                  try simp only [Act.put, List.setIfInBounds_toArray, List.set_cons_zero, List.set_cons_succ]
                  refine wpAnyH_done (by kernel_rfl) ?_ _
                  have HF1 := Lib.hid (HC9.out.setRow' (pathAr x lab a9 true))
                  clear hHeld
                  go_wp2_with fail
                  go_meet
                  exact ⟨_, a9, rfl, rfl, HF1.out, HFA9.out, HGS9.out⟩
              case rest =>
              obtain ⟨Y4, hZ4⟩ : ∃ x, x = wc := ⟨_, rfl⟩
              subst hZ4
              obtain ⟨gY4, aY4, rfl, rfl, HPY4, HMY4, hb4⟩ := hcut
              have HBY4 : Hid (Below Z.heap.size Z Y4) := HBwq.out.trans (hb4.out.mono HBwq.out.size)
              have HRQ4 := Lib.hid (HR5.out.below HBY4.out)
              clear HRQ HG1 c0 c1 c2 c3 c4 c5
              obtain ⟨c0, c1, c2, c3, c4, c5⟩ := HROWI.out Y4 HBY4.out
              go_upto_region 24 with fail
              go_cut [16, 17] (fun v8 v9 wx => ∃ (g : Nat) (a9 : Atr), v8 = .pointer (some ⟨g, 0, none⟩) ∧ v9 = .bool false ∧ Hid (CellsAt wx g (pathAr noPk 0 a9 false) 47) ∧ Hid (a9.med = 0) ∧ Hid (Below Y4.heap.size Y4 wx))
              case first =>
                refine wp_region_held_drew (S := fun w' => Below Y4.heap.size Y4 w') (by kernel_rfl) (below_drewN (Below.refl _ _) 1) (fun hHeld => ?_)
                refine wpAnyH_take (i := 0) (oi := { dst := some 100, op := Op.move (Operand.tmp 7), type := 25, pos := "outright.go:108", after := #[], guard := none }) (v := ?_) rfl (by kernel_rfl) (by kernel_rfl) (by kernel_rfl) (fun _ _ _ h => h) (Or.inl ⟨by rfl, ?_⟩) hHeld ?_
                rotate_left
                · intro w hSw
                  clear hSw
                  go_simp
                  try with_reducible rfl
                try simp only [Act.put, List.setIfInBounds_toArray, List.set_cons_zero, List.set_cons_succ]
                refine wpAnyH_take (i := 1) (oi := { dst := some 101, op := Op.move (Operand.tmp 12), type := 22, pos := "outright.go:108", after := #[], guard := none }) (v := ?_) rfl (by kernel_rfl) (by kernel_rfl) (by kernel_rfl) (fun _ _ _ h => h) (Or.inl ⟨by rfl, ?_⟩) hHeld ?_
                rotate_left
                · intro w hSw
                  clear hSw
                  go_simp
                  try with_reducible rfl
                try simp only [Act.put, List.setIfInBounds_toArray, List.set_cons_zero, List.set_cons_succ]
                refine wpAnyH_take (i := 2) (oi := { dst := some 102, op := Op.move (Operand.tmp 13), type := 3, pos := "outright.go:108", after := #[], guard := none }) (v := ?_) rfl (by kernel_rfl) (by kernel_rfl) (by kernel_rfl) (fun _ _ _ h => h) (Or.inl ⟨by rfl, ?_⟩) hHeld ?_
                rotate_left
                · intro w hSw
                  clear hSw
                  go_simp
                  try with_reducible rfl
                try simp only [Act.put, List.setIfInBounds_toArray, List.set_cons_zero, List.set_cons_succ]
                refine wpAnyH_take (i := 3) (oi := { dst := some 103, op := Op.indexAddr 22 (Operand.tmp 101) (Operand.tmp 102), type := 0, pos := "outright.go:108", after := #[{ on := 1, ground := Ground.data }, { on := 2, ground := Ground.data }], guard := none }) (v := ?_) rfl (by kernel_rfl) (by kernel_rfl) (by kernel_rfl) (fun _ _ _ h => h) (Or.inl ⟨by rfl, ?_⟩) hHeld ?_
                rotate_left
                · intro w hSw
                  clear hSw
                  go_simp
                  try with_reducible rfl
                try simp only [Act.put, List.setIfInBounds_toArray, List.set_cons_zero, List.set_cons_succ]
                refine wpAnyH_take (i := 4) (oi := { dst := some 104, op := Op.fieldAddr 32 (Operand.tmp 103) 0, type := 0, pos := "outright.go:108", after := #[{ on := 3, ground := Ground.data }], guard := none }) (v := ?_) rfl (by kernel_rfl) (by kernel_rfl) (by kernel_rfl) (fun _ _ _ h => h) (Or.inl ⟨by rfl, ?_⟩) hHeld ?_
                rotate_left
                · intro w hSw
                  clear hSw
                  go_simp
                  try with_reducible rfl
                try simp only [Act.put, List.setIfInBounds_toArray, List.set_cons_zero, List.set_cons_succ]
                refine wpAnyH_take (i := 5) (oi := { dst := some 105, op := Op.load 29 (Operand.tmp 104), type := 29, pos := "outright.go:108", after := #[{ on := 4, ground := Ground.data }], guard := none }) (v := ?_) rfl (by kernel_rfl) (by kernel_rfl) (by kernel_rfl) (fun _ _ _ h => h) (Or.inl ⟨by rfl, ?_⟩) hHeld ?_
                rotate_left
                · intro w hSw
                  obtain ⟨c0, c1, c2, c3, c4, c5⟩ := HROWI.out w (HBY4.out.trans (hSw.mono HBY4.out.size))
                  go_simp
                  try with_reducible rfl
                try simp only [Act.put, List.setIfInBounds_toArray, List.set_cons_zero, List.set_cons_succ]
                refine wpAnyH_take (i := 6) (oi := { dst := some 106, op := Op.move (Operand.tmp 12), type := 22, pos := "outright.go:108", after := #[], guard := none }) (v := ?_) rfl (by kernel_rfl) (by kernel_rfl) (by kernel_rfl) (fun _ _ _ h => h) (Or.inl ⟨by rfl, ?_⟩) hHeld ?_
                rotate_left
                · intro w hSw
                  clear hSw
                  go_simp
                  try with_reducible rfl
                try simp only [Act.put, List.setIfInBounds_toArray, List.set_cons_zero, List.set_cons_succ]
                refine wpAnyH_take (i := 7) (oi := { dst := some 107, op := Op.move (Operand.tmp 13), type := 3, pos := "outright.go:108", after := #[], guard := none }) (v := ?_) rfl (by kernel_rfl) (by kernel_rfl) (by kernel_rfl) (fun _ _ _ h => h) (Or.inl ⟨by rfl, ?_⟩) hHeld ?_
                rotate_left
                · intro w hSw
                  clear hSw
                  go_simp
                  try with_reducible rfl
                try simp only [Act.put, List.setIfInBounds_toArray, List.set_cons_zero, List.set_cons_succ]
                refine wpAnyH_take (i := 8) (oi := { dst := some 108, op := Op.indexAddr 22 (Operand.tmp 106) (Operand.tmp 107), type := 0, pos := "outright.go:108", after := #[{ on := 6, ground := Ground.data }, { on := 7, ground := Ground.data }], guard := none }) (v := ?_) rfl (by kernel_rfl) (by kernel_rfl) (by kernel_rfl) (fun _ _ _ h => h) (Or.inl ⟨by rfl, ?_⟩) hHeld ?_
                rotate_left
                · intro w hSw
                  clear hSw
                  go_simp
                  try with_reducible rfl
                try simp only [Act.put, List.setIfInBounds_toArray, List.set_cons_zero, List.set_cons_succ]
                refine wpAnyH_take (i := 9) (oi := { dst := some 109, op := Op.fieldAddr 32 (Operand.tmp 108) 1, type := 0, pos := "outright.go:108", after := #[{ on := 8, ground := Ground.data }], guard := none }) (v := ?_) rfl (by kernel_rfl) (by kernel_rfl) (by kernel_rfl) (fun _ _ _ h => h) (Or.inl ⟨by rfl, ?_⟩) hHeld ?_
                rotate_left
                · intro w hSw
                  clear hSw
                  go_simp
                  try with_reducible rfl
                try simp only [Act.put, List.setIfInBounds_toArray, List.set_cons_zero, List.set_cons_succ]
                refine wpAnyH_take (i := 10) (oi := { dst := some 110, op := Op.load 30 (Operand.tmp 109), type := 30, pos := "outright.go:108", after := #[{ on := 9, ground := Ground.data }], guard := none }) (v := ?_) rfl (by kernel_rfl) (by kernel_rfl) (by kernel_rfl) (fun _ _ _ h => h) (Or.inl ⟨by rfl, ?_⟩) hHeld ?_
                rotate_left
                · intro w hSw
                  obtain ⟨c0, c1, c2, c3, c4, c5⟩ := HROWI.out w (HBY4.out.trans (hSw.mono HBY4.out.size))
                  go_simp
                  try with_reducible rfl
                try simp only [Act.put, List.setIfInBounds_toArray, List.set_cons_zero, List.set_cons_succ]
                refine wpAnyH_ready (rs := [11, 15]) (by kernel_rfl) (by simp) ?_
                refine AllReadyH.cons (o := { dst := some 111, op := Op.call { callee := Callee.value (Operand.func 13), args := #[Operand.tmp 100, Operand.tmp 105, Operand.tmp 110], argTypes := #[25, 29, 30] }, type := 48, pos := "outright.go:108", after := #[{ on := 0, ground := Ground.data }, { on := 5, ground := Ground.data }, { on := 10, ground := Ground.data }], guard := none }) rfl (fun K hK => ?_) ?_
                · go_simp
                  refine (HG2.out _ (HRQ4.out.drew_)).mono ?_
                  rintro e w9 ⟨⟨a9, rfl, hfa⟩, hw9⟩
                  have HFA9 : Hid (a9.med = 0) := hfa
                  have HG9 : Hid (Below Y4.heap.size Y4 w9) := hHeld.trans (hw9.mono hHeld.size)
                  clear hfa
                  refine hK.out _ _ HG9.out (fun hHeld => ?_)
                  clear hK K
                  try simp only [Act.put, List.setIfInBounds_toArray, List.set_cons_zero, List.set_cons_succ]
                  refine wpAnyH_take (i := 12) (oi := { dst := some 99, op := Op.move (Operand.tmp 111), type := 48, pos := "outright.go:108", after := #[{ on := 11, ground := Ground.data }], guard := none }) (v := ?_) rfl (by kernel_rfl) (by kernel_rfl) (by kernel_rfl) (fun _ _ _ h => h) (Or.inl ⟨by rfl, ?_⟩) hHeld ?_
                  rotate_left
                  · intro w hSw
                    clear hSw
                    go_simp
                    try with_reducible rfl
                  try simp only [Act.put, List.setIfInBounds_toArray, List.set_cons_zero, List.set_cons_succ]
                  refine wpAnyH_take (i := 13) (oi := { dst := some 112, op := Op.extract (Operand.tmp 99) 0, type := 47, pos := "outright.go:108", after := #[{ on := 12, ground := Ground.data }], guard := none }) (v := ?_) rfl (by kernel_rfl) (by kernel_rfl) (by kernel_rfl) (fun _ _ _ h => h) (Or.inl ⟨by rfl, ?_⟩) hHeld ?_
                  rotate_left
                  · intro w hSw
                    clear hSw
                    go_simp
                    try with_reducible rfl
                  try simp only [Act.put, List.setIfInBounds_toArray, List.set_cons_zero, List.set_cons_succ]
                  refine wpAnyH_take (i := 14) (oi := { dst := some 113, op := Op.extract (Operand.tmp 99) 1, type := 4, pos := "outright.go:108", after := #[{ on := 12, ground := Ground.data }, { on := 16, ground := Ground.gcOnly Departure.lateStores }], guard := none }) (v := ?_) rfl (by kernel_rfl) (by kernel_rfl) (by kernel_rfl) (fun _ _ _ h => h) (Or.inl ⟨by rfl, ?_⟩) hHeld ?_
                  rotate_left
                  · intro w hSw
                    clear hSw
                    go_simp
                    try with_reducible rfl
                  try simp only [Act.put, List.setIfInBounds_toArray, List.set_cons_zero, List.set_cons_succ]
                  have HNx9 : Hid (∀ cs : Array Value, CellsAt (w9.alloc (.cells cs 47)) w9.heap.size cs 47) := fun cs => CellsAt.new _ _ _
                  have hb9 : ∀ cs : Array Value, Below w9.heap.size w9 ((w9.alloc (.cells cs 47)).setRow w9.heap.size (pathAr noPk 0 a9 false)) := fun cs => ((Below.refl _ _).alloc (Nat.le_refl _) _).grown (grown_setRow' _ _ _) (by simp) (fun q hq => by cases hq; exact Nat.le_refl _)
                  have HGSx9 : Hid (∀ cs : Array Value, Below Y4.heap.size Y4 ((w9.alloc (.cells cs 47)).setRow w9.heap.size (pathAr noPk 0 a9 false))) := fun cs => HG9.out.trans ((hb9 cs).mono HG9.out.size)
                  clear hb9
                  refine wpAnyH_ready (rs := [15]) (by kernel_rfl) (by simp) ?_
                  refine AllReadyH.cons (o := { dst := some 16, op := Op.alloc 47, type := 0, pos := "outright.go:108", after := #[], guard := none }) rfl (fun K hK => ?_) AllReadyH.nil
                  go_simp
                  refine hK.out _ _ (HG9.out.trans (((Below.refl _ _).alloc (Nat.le_refl _) _).mono HG9.out.size)) (fun hHeld => ?_)
                  clear hK K
                  try simp only [Act.put, List.setIfInBounds_toArray, List.set_cons_zero, List.set_cons_succ]
                  refine wpAnyH_ready (rs := [16]) (by kernel_rfl) (by simp) ?_
                  refine AllReadyH.cons (o := { dst := none, op := Op.store 47 (Operand.tmp 16) (Operand.tmp 112), type := 0, pos := "outright.go:108", after := #[{ on := 15, ground := Ground.data }, { on := 13, ground := Ground.data }, { on := 11, ground := Ground.chain }, { on := 0, ground := Ground.phase }, { on := 1, ground := Ground.phase }, { on := 2, ground := Ground.phase }, { on := 3, ground := Ground.phase }, { on := 4, ground := Ground.phase }, { on := 5, ground := Ground.phase }, { on := 6, ground := Ground.phase }, { on := 7, ground := Ground.phase }, { on := 8, ground := Ground.phase }, { on := 9, ground := Ground.phase }, { on := 10, ground := Ground.phase }, { on := 11, ground := Ground.phase }, { on := 12, ground := Ground.phase }, { on := 13, ground := Ground.phase }, { on := 14, ground := Ground.textOnly Departure.lateStores }, { on := 15, ground := Ground.phase }], guard := none }) rfl (fun K hK => ?_) AllReadyH.nil
                  refine wp_store_row 47 (.tmp 16) (.tmp 112) rfl w9.heap.size (pathAr noPk 0 a9 false) rfl rfl 47 _ (HNx9.out _) (by rw [path_size]; rfl) rfl (path_ones _ _ _ _) ?_
                  refine hK.out _ _ (HGSx9.out _) (fun hHeld => ?_)
                  clear hK K
                  try simp only [Act.put, List.setIfInBounds_toArray, List.set_cons_zero, List.set_cons_succ]
                  refine wpAnyH_take (i := 17) (oi := { dst := some 17, op := Op.assign (Operand.tmp 113), type := 4, pos := "outright.go:108", after := #[{ on := 14, ground := Ground.data }, { on := 16, ground := Ground.chain }, { on := 0, ground := Ground.phase }, { on := 1, ground := Ground.phase }, { on := 2, ground := Ground.phase }, { on := 3, ground := Ground.phase }, { on := 4, ground := Ground.phase }, { on := 5, ground := Ground.phase }, { on := 6, ground := Ground.phase }, { on := 7, ground := Ground.phase }, { on := 8, ground := Ground.phase }, { on := 9, ground := Ground.phase }, { on := 10, ground := Ground.phase }, { on := 11, ground := Ground.phase }, { on := 12, ground := Ground.phase }, { on := 13, ground := Ground.phase }, { on := 14, ground := Ground.phase }, { on := 15, ground := Ground.phase }, { on := 16, ground := Ground.phase }], guard := none }) (v := ?_) rfl (by kernel_rfl) (by kernel_rfl) (by kernel_rfl) (fun _ _ _ h => h) (Or.inl ⟨by rfl, ?_⟩) hHeld ?_
                  rotate_left
                  · intro w hSw
                    clear hSw
                    go_simp
                    try with_reducible rfl
                  try simp only [Act.put, List.setIfInBounds_toArray, List.set_cons_zero, List.set_cons_succ]
                  refine wpAnyH_done (by kernel_rfl) ?_ _
                  have HF1 := Lib.hid (fun cs => (HNx9.out cs).setRow' (pathAr noPk 0 a9 false))
                  clear hHeld
                  go_wp2_with fail
                  go_meet
                  exact ⟨_, a9, rfl, rfl, HF1.out _, HFA9.out, HGSx9.out _⟩
                · refine AllReadyH.cons (o := { dst := some 16, op := Op.alloc 47, type := 0, pos := "outright.go:108", after := #[], guard := none }) rfl (fun K hK => ?_) AllReadyH.nil
                  go_simp
                  have HNB : Hid (∀ cs : Array Value, CellsAt (Y4.drew.alloc (.cells cs 47)) Y4.heap.size cs 47) := fun cs => CellsAt.new Y4.drew _ _
                  have hbB : ∀ cs : Array Value, Below Y4.drew.heap.size Y4.drew (Y4.drew.alloc (.cells cs 47)) := fun cs => (Below.refl _ _).alloc (Nat.le_refl _) _
                  have HRB : Hid (∀ cs : Array Value, RibM (Y4.drew.alloc (.cells cs 47)) bs b m 0 M5) := fun cs => HRQ4.out.drew_.below (hbB cs)
                  refine hK.out _ _ (hHeld.trans ((hbB _).mono hHeld.size)) (fun hHeld => ?_)
                  clear hK K hbB
                  try simp only [Act.put, List.setIfInBounds_toArray, List.set_cons_zero, List.set_cons_succ]
                  refine wpAnyH_ready (rs := [11]) (by kernel_rfl) (by simp) ?_
                  refine AllReadyH.cons (o := { dst := some 111, op := Op.call { callee := Callee.value (Operand.func 13), args := #[Operand.tmp 100, Operand.tmp 105, Operand.tmp 110], argTypes := #[25, 29, 30] }, type := 48, pos := "outright.go:108", after := #[{ on := 0, ground := Ground.data }, { on := 5, ground := Ground.data }, { on := 10, ground := Ground.data }], guard := none }) rfl (fun K hK => ?_) AllReadyH.nil
                  go_simp
                  refine (HG2.out _ (HRB.out _)).mono ?_
                  rintro e w9 ⟨⟨a9, rfl, hfa⟩, hw9⟩
                  have HFA9 : Hid (a9.med = 0) := hfa
                  have HG9 : Hid (Below Y4.heap.size Y4 w9) := hHeld.trans (hw9.mono hHeld.size)
                  clear hfa
                  refine hK.out _ _ HG9.out (fun hHeld => ?_)
                  clear hK K
                  try simp only [Act.put, List.setIfInBounds_toArray, List.set_cons_zero, List.set_cons_succ]
                  refine wpAnyH_take (i := 12) (oi := { dst := some 99, op := Op.move (Operand.tmp 111), type := 48, pos := "outright.go:108", after := #[{ on := 11, ground := Ground.data }], guard := none }) (v := ?_) rfl (by kernel_rfl) (by kernel_rfl) (by kernel_rfl) (fun _ _ _ h => h) (Or.inl ⟨by rfl, ?_⟩) hHeld ?_
                  rotate_left
                  · intro w hSw
                    clear hSw
                    go_simp
                    try with_reducible rfl
                  try simp only [Act.put, List.setIfInBounds_toArray, List.set_cons_zero, List.set_cons_succ]
                  refine wpAnyH_take (i := 13) (oi := { dst := some 112, op := Op.extract (Operand.tmp 99) 0, type := 47, pos := "outright.go:108", after := #[{ on := 12, ground := Ground.data }], guard := none }) (v := ?_) rfl (by kernel_rfl) (by kernel_rfl) (by kernel_rfl) (fun _ _ _ h => h) (Or.inl ⟨by rfl, ?_⟩) hHeld ?_
                  rotate_left
                  · intro w hSw
                    clear hSw
                    go_simp
                    try with_reducible rfl
                  try simp only [Act.put, List.setIfInBounds_toArray, List.set_cons_zero, List.set_cons_succ]
                  refine wpAnyH_take (i := 14) (oi := { dst := some 113, op := Op.extract (Operand.tmp 99) 1, type := 4, pos := "outright.go:108", after := #[{ on := 12, ground := Ground.data }, { on := 16, ground := Ground.gcOnly Departure.lateStores }], guard := none }) (v := ?_) rfl (by kernel_rfl) (by kernel_rfl) (by kernel_rfl) (fun _ _ _ h => h) (Or.inl ⟨by rfl, ?_⟩) hHeld ?_
                  rotate_left
                  · intro w hSw
                    clear hSw
                    go_simp
                    try with_reducible rfl
                  try simp only [Act.put, List.setIfInBounds_toArray, List.set_cons_zero, List.set_cons_succ]
                  have HC9 := Lib.hid ((HNB.out _).below hw9 (HNB.out _).lt)
                  have HGS9 : Hid (Below Y4.heap.size Y4 (w9.setRow Y4.heap.size (pathAr noPk 0 a9 false))) := HG9.out.grown (grown_setRow' w9 Y4.heap.size (pathAr noPk 0 a9 false)) HG9.out.size (fun q hq => by cases hq; exact Nat.le_refl _)
                  refine wpAnyH_ready (rs := [16]) (by kernel_rfl) (by simp) ?_
                  refine AllReadyH.cons (o := { dst := none, op := Op.store 47 (Operand.tmp 16) (Operand.tmp 112), type := 0, pos := "outright.go:108", after := #[{ on := 15, ground := Ground.data }, { on := 13, ground := Ground.data }, { on := 11, ground := Ground.chain }, { on := 0, ground := Ground.phase }, { on := 1, ground := Ground.phase }, { on := 2, ground := Ground.phase }, { on := 3, ground := Ground.phase }, { on := 4, ground := Ground.phase }, { on := 5, ground := Ground.phase }, { on := 6, ground := Ground.phase }, { on := 7, ground := Ground.phase }, { on := 8, ground := Ground.phase }, { on := 9, ground := Ground.phase }, { on := 10, ground := Ground.phase }, { on := 11, ground := Ground.phase }, { on := 12, ground := Ground.phase }, { on := 13, ground := Ground.phase }, { on := 14, ground := Ground.textOnly Departure.lateStores }, { on := 15, ground := Ground.phase }], guard := none }) rfl (fun K hK => ?_) AllReadyH.nil
                  refine wp_store_row 47 (.tmp 16) (.tmp 112) rfl Y4.heap.size (pathAr noPk 0 a9 false) rfl rfl 47 _ HC9.out (by rw [path_size]; rfl) rfl (path_ones _ _ _ _) ?_
                  refine hK.out _ _ (HGS9.out) (fun hHeld => ?_)
                  clear hK K
                  try simp only [Act.put, List.setIfInBounds_toArray, List.set_cons_zero, List.set_cons_succ]
                  refine wpAnyH_take (i := 17) (oi := { dst := some 17, op := Op.assign (Operand.tmp 113), type := 4, pos := "outright.go:108", after := #[{ on := 14, ground := Ground.data }, { on := 16, ground := Ground.chain }, { on := 0, ground := Ground.phase }, { on := 1, ground := Ground.phase }, { on := 2, ground := Ground.phase }, { on := 3, ground := Ground.phase }, { on := 4, ground := Ground.phase }, { on := 5, ground := Ground.phase }, { on := 6, ground := Ground.phase }, { on := 7, ground := Ground.phase }, { on := 8, ground := Ground.phase }, { on := 9, ground := Ground.phase }, { on := 10, ground := Ground.phase }, { on := 11, ground := Ground.phase }, { on := 12, ground := Ground.phase }, { on := 13, ground := Ground.phase }, { on := 14, ground := Ground.phase }, { on := 15, ground := Ground.phase }, { on := 16, ground := Ground.phase }], guard := none }) (v := ?_) rfl (by kernel_rfl) (by kernel_rfl) (by kernel_rfl) (fun _ _ _ h => h) (Or.inl ⟨by rfl, ?_⟩) hHeld ?_
                  rotate_left
                  · intro w hSw
                    clear hSw
                    go_simp
                    try with_reducible rfl
                  try simp only [Act.put, List.setIfInBounds_toArray, List.set_cons_zero, List.set_cons_succ]
                  refine wpAnyH_done (by kernel_rfl) ?_ _
                  have HF1 := Lib.hid (HC9.out.setRow' (pathAr noPk 0 a9 false))
                  clear hHeld
                  go_wp2_with fail
                  go_meet
                  exact ⟨_, a9, rfl, rfl, HF1.out, HFA9.out, HGS9.out⟩
              case rest =>
              obtain ⟨Y5, hZ4⟩ : ∃ x, x = wc := ⟨_, rfl⟩
              subst hZ4
              obtain ⟨gY5, aY5, rfl, rfl, HPY5, HMY5, hb4⟩ := hcut
              have HBY5 : Hid (Below Z.heap.size Z Y5) := HBY4.out.trans (hb4.out.mono HBY4.out.size)
              have HPY := Lib.hid (HPY4.out.below hb4.out HPY4.out.lt)
              have hmed := HMY4.out
              have HP3 : Hid (∀ W, Below Y5.heap.size Y5 W → W.cell? ⟨gY4, 0, none⟩ = some (.int .i64 fam) ∧ W.cell? ⟨gY4, 10, none⟩ = some (.int .u32 1) ∧ W.cell? ⟨gY4, 28, none⟩ = some (.bool true)) := fun W hW => by
                have h := path_two (HPY.out.below hW HPY.out.lt)
                rw [hmed, HXF.out] at h
                exact h
              clear HRQ4 HG2 c0 c1 c2 c3 c4 c5 HPY4 HPY5 HMY5 hmed HPY
              go_upto_region 25 with fail
              by_cases h0 : n = 0
              · subst h0
                refine wp_region_eqD [{ dst := some 114, op := Op.move (Operand.tmp 15), type := 4, pos := "outright.go:109", after := #[], guard := none }, { dst := some 115, op := Op.unOp UnOp.not 4 (Operand.tmp 114), type := 4, pos := "outright.go:109", after := #[{ on := 0, ground := Ground.data }], guard := none }, { dst := some 116, op := Op.move (Operand.tmp 115), type := 4, pos := "outright.go:109", after := #[{ on := 1, ground := Ground.data }], guard := none }, { dst := some 117, op := Op.fieldAddr 47 (Operand.tmp 14) 5, type := 0, pos := "outright.go:109", after := #[{ on := 2, ground := Ground.guard }], guard := some (2, false) }, { dst := some 118, op := Op.load 4 (Operand.tmp 117), type := 4, pos := "outright.go:109", after := #[{ on := 3, ground := Ground.data }, { on := 2, ground := Ground.guard }], guard := some (2, false) }, { dst := some 119, op := Op.unOp UnOp.not 4 (Operand.tmp 118), type := 4, pos := "outright.go:109", after := #[{ on := 4, ground := Ground.data }, { on := 2, ground := Ground.guard }], guard := some (2, false) }, { dst := some 120, op := Op.pick (Operand.tmp 116) (Operand.const (Value.bool true)) (Operand.tmp 119), type := 4, pos := "outright.go:109", after := #[{ on := 2, ground := Ground.data }, { on := 5, ground := Ground.data }], guard := none }, { dst := some 121, op := Op.move (Operand.tmp 120), type := 4, pos := "outright.go:109", after := #[{ on := 6, ground := Ground.data }, { on := 2, ground := Ground.chain }], guard := none }, { dst := some 122, op := Op.fieldAddr 47 (Operand.tmp 14) 3, type := 0, pos := "outright.go:109", after := #[{ on := 7, ground := Ground.guard }], guard := some (7, false) }, { dst := some 123, op := Op.fieldAddr 41 (Operand.tmp 122) 4, type := 0, pos := "outright.go:109", after := #[{ on := 8, ground := Ground.data }, { on := 7, ground := Ground.guard }], guard := some (7, false) }, { dst := some 124, op := Op.load 30 (Operand.tmp 123), type := 30, pos := "outright.go:109", after := #[{ on := 9, ground := Ground.data }, { on := 7, ground := Ground.guard }], guard := some (7, false) }, { dst := some 125, op := Op.binOp BinOp.neq 30 (Operand.tmp 124) (Operand.const (Value.int IntKind.u32 1)) 30, type := 4, pos := "outright.go:109", after := #[{ on := 10, ground := Ground.data }, { on := 7, ground := Ground.guard }], guard := some (7, false) }, { dst := some 126, op := Op.pick (Operand.tmp 121) (Operand.const (Value.bool true)) (Operand.tmp 125), type := 4, pos := "outright.go:109", after := #[{ on := 7, ground := Ground.data }, { on := 11, ground := Ground.data }], guard := none }, { dst := some 127, op := Op.move (Operand.tmp 126), type := 4, pos := "outright.go:109", after := #[{ on := 12, ground := Ground.data }, { on := 7, ground := Ground.chain }], guard := none }, { dst := some 128, op := Op.move (Operand.tmp 17), type := 4, pos := "outright.go:109", after := #[{ on := 13, ground := Ground.guard }], guard := some (13, false) }, { dst := some 129, op := Op.pick (Operand.tmp 127) (Operand.const (Value.bool true)) (Operand.tmp 128), type := 4, pos := "outright.go:109", after := #[{ on := 13, ground := Ground.data }, { on := 14, ground := Ground.data }], guard := none }, { dst := some 130, op := Op.move (Operand.tmp 129), type := 4, pos := "outright.go:109", after := #[{ on := 15, ground := Ground.data }, { on := 13, ground := Ground.chain }], guard := none }, { dst := some 131, op := Op.fieldAddr 47 (Operand.tmp 14) 0, type := 0, pos := "outright.go:109", after := #[{ on := 16, ground := Ground.guard }], guard := some (16, false) }, { dst := some 132, op := Op.fieldAddr 29 (Operand.tmp 131) 0, type := 0, pos := "outright.go:109", after := #[{ on := 17, ground := Ground.data }, { on := 16, ground := Ground.guard }], guard := some (16, false) }, { dst := some 133, op := Op.load 3 (Operand.tmp 132), type := 3, pos := "outright.go:109", after := #[{ on := 18, ground := Ground.data }, { on := 16, ground := Ground.guard }], guard := some (16, false) }, { dst := some 134, op := Op.move (Operand.tmp 2), type := 3, pos := "outright.go:109", after := #[{ on := 16, ground := Ground.guard }], guard := some (16, false) }, { dst := some 135, op := Op.binOp BinOp.neq 3 (Operand.tmp 133) (Operand.tmp 134) 3, type := 4, pos := "outright.go:109", after := #[{ on := 19, ground := Ground.data }, { on := 20, ground := Ground.data }, { on := 16, ground := Ground.guard }], guard := some (16, false) }, { dst := some 136, op := Op.pick (Operand.tmp 130) (Operand.const (Value.bool true)) (Operand.tmp 135), type := 4, pos := "outright.go:109", after := #[{ on := 16, ground := Ground.data }, { on := 21, ground := Ground.data }], guard := none }, { dst := some 137, op := Op.move (Operand.tmp 136), type := 4, pos := "outright.go:109", after := #[{ on := 22, ground := Ground.data }, { on := 16, ground := Ground.chain }], guard := none }, { dst := some 138, op := Op.move (Operand.tmp 13), type := 3, pos := "outright.go:109", after := #[{ on := 23, ground := Ground.guard }], guard := some (23, false) }, { dst := some 139, op := Op.binOp BinOp.gtr 3 (Operand.tmp 138) (Operand.const (Value.int IntKind.i64 0)) 3, type := 4, pos := "outright.go:109", after := #[{ on := 24, ground := Ground.data }, { on := 23, ground := Ground.guard }], guard := some (23, false) }, { dst := some 140, op := Op.move (Operand.tmp 139), type := 4, pos := "outright.go:109", after := #[{ on := 25, ground := Ground.data }, { on := 23, ground := Ground.chain }, { on := 23, ground := Ground.guard }], guard := some (23, false) }, { dst := some 141, op := Op.move (Operand.tmp 12), type := 22, pos := "outright.go:109", after := #[{ on := 26, ground := Ground.guard }], guard := some (26, true) }, { dst := some 142, op := Op.move (Operand.tmp 13), type := 3, pos := "outright.go:109", after := #[{ on := 26, ground := Ground.guard }], guard := some (26, true) }, { dst := some 143, op := Op.binOp BinOp.sub 3 (Operand.tmp 142) (Operand.const (Value.int IntKind.i64 1)) 3, type := 3, pos := "outright.go:109", after := #[{ on := 28, ground := Ground.data }, { on := 26, ground := Ground.guard }], guard := some (26, true) }, { dst := some 144, op := Op.indexAddr 22 (Operand.tmp 141) (Operand.tmp 143), type := 0, pos := "outright.go:109", after := #[{ on := 27, ground := Ground.data }, { on := 29, ground := Ground.data }, { on := 26, ground := Ground.guard }], guard := some (26, true) }, { dst := some 145, op := Op.fieldAddr 32 (Operand.tmp 144) 0, type := 0, pos := "outright.go:109", after := #[{ on := 30, ground := Ground.data }, { on := 26, ground := Ground.guard }], guard := some (26, true) }, { dst := some 146, op := Op.load 29 (Operand.tmp 145), type := 29, pos := "outright.go:109", after := #[{ on := 31, ground := Ground.data }, { on := 26, ground := Ground.guard }], guard := some (26, true) }, { dst := some 147, op := Op.move (Operand.tmp 12), type := 22, pos := "outright.go:109", after := #[{ on := 26, ground := Ground.guard }], guard := some (26, true) }, { dst := some 148, op := Op.move (Operand.tmp 13), type := 3, pos := "outright.go:109", after := #[{ on := 26, ground := Ground.guard }], guard := some (26, true) }, { dst := some 149, op := Op.indexAddr 22 (Operand.tmp 147) (Operand.tmp 148), type := 0, pos := "outright.go:109", after := #[{ on := 33, ground := Ground.data }, { on := 34, ground := Ground.data }, { on := 26, ground := Ground.guard }], guard := some (26, true) }, { dst := some 150, op := Op.fieldAddr 32 (Operand.tmp 149) 0, type := 0, pos := "outright.go:109", after := #[{ on := 35, ground := Ground.data }, { on := 26, ground := Ground.guard }], guard := some (26, true) }, { dst := some 151, op := Op.load 29 (Operand.tmp 150), type := 29, pos := "outright.go:109", after := #[{ on := 36, ground := Ground.data }, { on := 26, ground := Ground.guard }], guard := some (26, true) }, { dst := some 152, op := Op.call { callee := Callee.value (Operand.func 19), args := #[Operand.tmp 146, Operand.tmp 151], argTypes := #[29, 29] }, type := 3, pos := "outright.go:109", after := #[{ on := 32, ground := Ground.data }, { on := 37, ground := Ground.data }, { on := 26, ground := Ground.chain }, { on := 26, ground := Ground.guard }], guard := some (26, true) }, { dst := some 153, op := Op.binOp BinOp.gtr 3 (Operand.tmp 152) (Operand.const (Value.int IntKind.i64 0)) 3, type := 4, pos := "outright.go:109", after := #[{ on := 38, ground := Ground.data }, { on := 26, ground := Ground.guard }], guard := some (26, true) }, { dst := some 154, op := Op.move (Operand.tmp 153), type := 4, pos := "outright.go:109", after := #[{ on := 39, ground := Ground.data }, { on := 38, ground := Ground.chain }, { on := 26, ground := Ground.guard }], guard := some (26, true) }, { dst := some 155, op := Op.move (Operand.tmp 12), type := 22, pos := "outright.go:109", after := #[{ on := 40, ground := Ground.guard }], guard := some (40, false) }, { dst := some 156, op := Op.move (Operand.tmp 13), type := 3, pos := "outright.go:109", after := #[{ on := 40, ground := Ground.guard }], guard := some (40, false) }, { dst := some 157, op := Op.binOp BinOp.sub 3 (Operand.tmp 156) (Operand.const (Value.int IntKind.i64 1)) 3, type := 3, pos := "outright.go:109", after := #[{ on := 42, ground := Ground.data }, { on := 40, ground := Ground.guard }], guard := some (40, false) }, { dst := some 158, op := Op.indexAddr 22 (Operand.tmp 155) (Operand.tmp 157), type := 0, pos := "outright.go:109", after := #[{ on := 41, ground := Ground.data }, { on := 43, ground := Ground.data }, { on := 40, ground := Ground.guard }], guard := some (40, false) }, { dst := some 159, op := Op.fieldAddr 32 (Operand.tmp 158) 0, type := 0, pos := "outright.go:109", after := #[{ on := 44, ground := Ground.data }, { on := 40, ground := Ground.guard }], guard := some (40, false) }, { dst := some 160, op := Op.load 29 (Operand.tmp 159), type := 29, pos := "outright.go:109", after := #[{ on := 45, ground := Ground.data }, { on := 40, ground := Ground.guard }], guard := some (40, false) }, { dst := some 161, op := Op.move (Operand.tmp 12), type := 22, pos := "outright.go:109", after := #[{ on := 40, ground := Ground.guard }], guard := some (40, false) }, { dst := some 162, op := Op.move (Operand.tmp 13), type := 3, pos := "outright.go:109", after := #[{ on := 40, ground := Ground.guard }], guard := some (40, false) }, { dst := some 163, op := Op.indexAddr 22 (Operand.tmp 161) (Operand.tmp 162), type := 0, pos := "outright.go:109", after := #[{ on := 47, ground := Ground.data }, { on := 48, ground := Ground.data }, { on := 40, ground := Ground.guard }], guard := some (40, false) }, { dst := some 164, op := Op.fieldAddr 32 (Operand.tmp 163) 0, type := 0, pos := "outright.go:109", after := #[{ on := 49, ground := Ground.data }, { on := 40, ground := Ground.guard }], guard := some (40, false) }, { dst := some 165, op := Op.load 29 (Operand.tmp 164), type := 29, pos := "outright.go:109", after := #[{ on := 50, ground := Ground.data }, { on := 40, ground := Ground.guard }], guard := some (40, false) }, { dst := some 166, op := Op.binOp BinOp.eql 29 (Operand.tmp 160) (Operand.tmp 165) 29, type := 4, pos := "outright.go:109", after := #[{ on := 46, ground := Ground.data }, { on := 51, ground := Ground.data }, { on := 40, ground := Ground.guard }], guard := some (40, false) }, { dst := some 167, op := Op.move (Operand.tmp 166), type := 4, pos := "outright.go:109", after := #[{ on := 52, ground := Ground.data }, { on := 40, ground := Ground.chain }, { on := 40, ground := Ground.guard }], guard := some (40, false) }, { dst := some 168, op := Op.move (Operand.tmp 12), type := 22, pos := "outright.go:109", after := #[{ on := 53, ground := Ground.guard }], guard := some (53, true) }, { dst := some 169, op := Op.move (Operand.tmp 13), type := 3, pos := "outright.go:109", after := #[{ on := 53, ground := Ground.guard }], guard := some (53, true) }, { dst := some 170, op := Op.binOp BinOp.sub 3 (Operand.tmp 169) (Operand.const (Value.int IntKind.i64 1)) 3, type := 3, pos := "outright.go:109", after := #[{ on := 55, ground := Ground.data }, { on := 53, ground := Ground.guard }], guard := some (53, true) }, { dst := some 171, op := Op.indexAddr 22 (Operand.tmp 168) (Operand.tmp 170), type := 0, pos := "outright.go:109", after := #[{ on := 54, ground := Ground.data }, { on := 56, ground := Ground.data }, { on := 53, ground := Ground.guard }], guard := some (53, true) }, { dst := some 172, op := Op.fieldAddr 32 (Operand.tmp 171) 1, type := 0, pos := "outright.go:109", after := #[{ on := 57, ground := Ground.data }, { on := 53, ground := Ground.guard }], guard := some (53, true) }, { dst := some 173, op := Op.load 30 (Operand.tmp 172), type := 30, pos := "outright.go:109", after := #[{ on := 58, ground := Ground.data }, { on := 53, ground := Ground.guard }], guard := some (53, true) }, { dst := some 174, op := Op.move (Operand.tmp 12), type := 22, pos := "outright.go:109", after := #[{ on := 53, ground := Ground.guard }], guard := some (53, true) }, { dst := some 175, op := Op.move (Operand.tmp 13), type := 3, pos := "outright.go:109", after := #[{ on := 53, ground := Ground.guard }], guard := some (53, true) }, { dst := some 176, op := Op.indexAddr 22 (Operand.tmp 174) (Operand.tmp 175), type := 0, pos := "outright.go:109", after := #[{ on := 60, ground := Ground.data }, { on := 61, ground := Ground.data }, { on := 53, ground := Ground.guard }], guard := some (53, true) }, { dst := some 177, op := Op.fieldAddr 32 (Operand.tmp 176) 1, type := 0, pos := "outright.go:109", after := #[{ on := 62, ground := Ground.data }, { on := 53, ground := Ground.guard }], guard := some (53, true) }, { dst := some 178, op := Op.load 30 (Operand.tmp 177), type := 30, pos := "outright.go:109", after := #[{ on := 63, ground := Ground.data }, { on := 53, ground := Ground.guard }], guard := some (53, true) }, { dst := some 179, op := Op.binOp BinOp.geq 30 (Operand.tmp 173) (Operand.tmp 178) 30, type := 4, pos := "outright.go:109", after := #[{ on := 59, ground := Ground.data }, { on := 64, ground := Ground.data }, { on := 53, ground := Ground.guard }], guard := some (53, true) }, { dst := some 180, op := Op.pick (Operand.tmp 167) (Operand.tmp 179) (Operand.const (Value.bool false)), type := 4, pos := "outright.go:109", after := #[{ on := 53, ground := Ground.data }, { on := 65, ground := Ground.data }, { on := 40, ground := Ground.guard }], guard := some (40, false) }, { dst := some 181, op := Op.pick (Operand.tmp 154) (Operand.const (Value.bool true)) (Operand.tmp 180), type := 4, pos := "outright.go:109", after := #[{ on := 40, ground := Ground.data }, { on := 66, ground := Ground.data }, { on := 26, ground := Ground.guard }], guard := some (26, true) }, { dst := some 182, op := Op.pick (Operand.tmp 140) (Operand.tmp 181) (Operand.const (Value.bool false)), type := 4, pos := "outright.go:109", after := #[{ on := 26, ground := Ground.data }, { on := 67, ground := Ground.data }, { on := 23, ground := Ground.guard }], guard := some (23, false) }, { dst := some 183, op := Op.pick (Operand.tmp 137) (Operand.const (Value.bool true)) (Operand.tmp 182), type := 4, pos := "outright.go:109", after := #[{ on := 23, ground := Ground.data }, { on := 68, ground := Ground.data }], guard := none }] (by kernel_rfl) ?_
                refine wp_region_held_drew (S := fun w' => Below Y5.heap.size Y5 w') (by kernel_rfl) (below_drewN (Below.refl _ _) 1) (fun hHeld => ?_)
                refine wpAnyH_take (i := 0) (oi := { dst := some 114, op := Op.move (Operand.tmp 15), type := 4, pos := "outright.go:109", after := #[], guard := none }) (v := ?_) rfl (by kernel_rfl) (by kernel_rfl) (by kernel_rfl) (fun _ _ _ h => h) (Or.inl ⟨by rfl, ?_⟩) hHeld ?_
                rotate_left
                · intro w hSw
                  clear hSw
                  go_simp
                  try with_reducible rfl
                try simp only [Act.put, List.setIfInBounds_toArray, List.set_cons_zero, List.set_cons_succ]
                refine wpAnyH_take (i := 1) (oi := { dst := some 115, op := Op.unOp UnOp.not 4 (Operand.tmp 114), type := 4, pos := "outright.go:109", after := #[{ on := 0, ground := Ground.data }], guard := none }) (v := ?_) rfl (by kernel_rfl) (by kernel_rfl) (by kernel_rfl) (fun _ _ _ h => h) (Or.inl ⟨by rfl, ?_⟩) hHeld ?_
                rotate_left
                · intro w hSw
                  clear hSw
                  go_simp
                  try with_reducible rfl
                try simp only [Act.put, List.setIfInBounds_toArray, List.set_cons_zero, List.set_cons_succ]
                refine wpAnyH_take (i := 2) (oi := { dst := some 116, op := Op.move (Operand.tmp 115), type := 4, pos := "outright.go:109", after := #[{ on := 1, ground := Ground.data }], guard := none }) (v := ?_) rfl (by kernel_rfl) (by kernel_rfl) (by kernel_rfl) (fun _ _ _ h => h) (Or.inl ⟨by rfl, ?_⟩) hHeld ?_
                rotate_left
                · intro w hSw
                  clear hSw
                  go_simp
                  try with_reducible rfl
                try simp only [Act.put, List.setIfInBounds_toArray, List.set_cons_zero, List.set_cons_succ]
                refine wpAnyH_take (i := 3) (oi := { dst := some 117, op := Op.fieldAddr 47 (Operand.tmp 14) 5, type := 0, pos := "outright.go:109", after := #[{ on := 2, ground := Ground.guard }], guard := some (2, false) }) (v := ?_) rfl (by kernel_rfl) (by kernel_rfl) (by kernel_rfl) (fun _ _ _ h => h) (Or.inl ⟨by rfl, ?_⟩) hHeld ?_
                rotate_left
                · intro w hSw
                  clear hSw
                  go_simp
                  try with_reducible rfl
                try simp only [Act.put, List.setIfInBounds_toArray, List.set_cons_zero, List.set_cons_succ]
                refine wpAnyH_take (i := 4) (oi := { dst := some 118, op := Op.load 4 (Operand.tmp 117), type := 4, pos := "outright.go:109", after := #[{ on := 3, ground := Ground.data }, { on := 2, ground := Ground.guard }], guard := some (2, false) }) (v := ?_) rfl (by kernel_rfl) (by kernel_rfl) (by kernel_rfl) (fun _ _ _ h => h) (Or.inl ⟨by rfl, ?_⟩) hHeld ?_
                rotate_left
                · intro w hSw
                  obtain ⟨p0, p10, p28⟩ := HP3.out w hSw
                  go_simp
                  try with_reducible rfl
                try simp only [Act.put, List.setIfInBounds_toArray, List.set_cons_zero, List.set_cons_succ]
                refine wpAnyH_take (i := 5) (oi := { dst := some 119, op := Op.unOp UnOp.not 4 (Operand.tmp 118), type := 4, pos := "outright.go:109", after := #[{ on := 4, ground := Ground.data }, { on := 2, ground := Ground.guard }], guard := some (2, false) }) (v := ?_) rfl (by kernel_rfl) (by kernel_rfl) (by kernel_rfl) (fun _ _ _ h => h) (Or.inl ⟨by rfl, ?_⟩) hHeld ?_
                rotate_left
                · intro w hSw
                  clear hSw
                  go_simp
                  try with_reducible rfl
                try simp only [Act.put, List.setIfInBounds_toArray, List.set_cons_zero, List.set_cons_succ]
                refine wpAnyH_take (i := 6) (oi := { dst := some 120, op := Op.pick (Operand.tmp 116) (Operand.const (Value.bool true)) (Operand.tmp 119), type := 4, pos := "outright.go:109", after := #[{ on := 2, ground := Ground.data }, { on := 5, ground := Ground.data }], guard := none }) (v := ?_) rfl (by kernel_rfl) (by kernel_rfl) (by kernel_rfl) (fun _ _ _ h => h) (Or.inl ⟨by rfl, ?_⟩) hHeld ?_
                rotate_left
                · intro w hSw
                  clear hSw
                  go_simp
                  try with_reducible rfl
                try simp only [Act.put, List.setIfInBounds_toArray, List.set_cons_zero, List.set_cons_succ]
                refine wpAnyH_take (i := 7) (oi := { dst := some 121, op := Op.move (Operand.tmp 120), type := 4, pos := "outright.go:109", after := #[{ on := 6, ground := Ground.data }, { on := 2, ground := Ground.chain }], guard := none }) (v := ?_) rfl (by kernel_rfl) (by kernel_rfl) (by kernel_rfl) (fun _ _ _ h => h) (Or.inl ⟨by rfl, ?_⟩) hHeld ?_
                rotate_left
                · intro w hSw
                  clear hSw
                  go_simp
                  try with_reducible rfl
                try simp only [Act.put, List.setIfInBounds_toArray, List.set_cons_zero, List.set_cons_succ]
                refine wpAnyH_take (i := 8) (oi := { dst := some 122, op := Op.fieldAddr 47 (Operand.tmp 14) 3, type := 0, pos := "outright.go:109", after := #[{ on := 7, ground := Ground.guard }], guard := some (7, false) }) (v := ?_) rfl (by kernel_rfl) (by kernel_rfl) (by kernel_rfl) (fun _ _ _ h => h) (Or.inl ⟨by rfl, ?_⟩) hHeld ?_
                rotate_left
                · intro w hSw
                  clear hSw
                  go_simp
                  try with_reducible rfl
                try simp only [Act.put, List.setIfInBounds_toArray, List.set_cons_zero, List.set_cons_succ]
                refine wpAnyH_take (i := 9) (oi := { dst := some 123, op := Op.fieldAddr 41 (Operand.tmp 122) 4, type := 0, pos := "outright.go:109", after := #[{ on := 8, ground := Ground.data }, { on := 7, ground := Ground.guard }], guard := some (7, false) }) (v := ?_) rfl (by kernel_rfl) (by kernel_rfl) (by kernel_rfl) (fun _ _ _ h => h) (Or.inl ⟨by rfl, ?_⟩) hHeld ?_
                rotate_left
                · intro w hSw
                  clear hSw
                  go_simp
                  try with_reducible rfl
                try simp only [Act.put, List.setIfInBounds_toArray, List.set_cons_zero, List.set_cons_succ]
                refine wpAnyH_take (i := 10) (oi := { dst := some 124, op := Op.load 30 (Operand.tmp 123), type := 30, pos := "outright.go:109", after := #[{ on := 9, ground := Ground.data }, { on := 7, ground := Ground.guard }], guard := some (7, false) }) (v := ?_) rfl (by kernel_rfl) (by kernel_rfl) (by kernel_rfl) (fun _ _ _ h => h) (Or.inl ⟨by rfl, ?_⟩) hHeld ?_
                rotate_left
                · intro w hSw
                  obtain ⟨p0, p10, p28⟩ := HP3.out w hSw
                  go_simp
                  try with_reducible rfl
                try simp only [Act.put, List.setIfInBounds_toArray, List.set_cons_zero, List.set_cons_succ]
                refine wpAnyH_take (i := 11) (oi := { dst := some 125, op := Op.binOp BinOp.neq 30 (Operand.tmp 124) (Operand.const (Value.int IntKind.u32 1)) 30, type := 4, pos := "outright.go:109", after := #[{ on := 10, ground := Ground.data }, { on := 7, ground := Ground.guard }], guard := some (7, false) }) (v := ?_) rfl (by kernel_rfl) (by kernel_rfl) (by kernel_rfl) (fun _ _ _ h => h) (Or.inl ⟨by rfl, ?_⟩) hHeld ?_
                rotate_left
                · intro w hSw
                  clear hSw
                  go_simp
                  try with_reducible rfl
                try simp only [Act.put, List.setIfInBounds_toArray, List.set_cons_zero, List.set_cons_succ]
                refine wpAnyH_take (i := 12) (oi := { dst := some 126, op := Op.pick (Operand.tmp 121) (Operand.const (Value.bool true)) (Operand.tmp 125), type := 4, pos := "outright.go:109", after := #[{ on := 7, ground := Ground.data }, { on := 11, ground := Ground.data }], guard := none }) (v := ?_) rfl (by kernel_rfl) (by kernel_rfl) (by kernel_rfl) (fun _ _ _ h => h) (Or.inl ⟨by rfl, ?_⟩) hHeld ?_
                rotate_left
                · intro w hSw
                  clear hSw
                  go_simp
                  try with_reducible rfl
                try simp only [Act.put, List.setIfInBounds_toArray, List.set_cons_zero, List.set_cons_succ]
                refine wpAnyH_take (i := 13) (oi := { dst := some 127, op := Op.move (Operand.tmp 126), type := 4, pos := "outright.go:109", after := #[{ on := 12, ground := Ground.data }, { on := 7, ground := Ground.chain }], guard := none }) (v := ?_) rfl (by kernel_rfl) (by kernel_rfl) (by kernel_rfl) (fun _ _ _ h => h) (Or.inl ⟨by rfl, ?_⟩) hHeld ?_
                rotate_left
                · intro w hSw
                  clear hSw
                  go_simp
                  try with_reducible rfl
                try simp only [Act.put, List.setIfInBounds_toArray, List.set_cons_zero, List.set_cons_succ]
                refine wpAnyH_take (i := 14) (oi := { dst := some 128, op := Op.move (Operand.tmp 17), type := 4, pos := "outright.go:109", after := #[{ on := 13, ground := Ground.guard }], guard := some (13, false) }) (v := ?_) rfl (by kernel_rfl) (by kernel_rfl) (by kernel_rfl) (fun _ _ _ h => h) (Or.inl ⟨by rfl, ?_⟩) hHeld ?_
                rotate_left
                · intro w hSw
                  clear hSw
                  go_simp
                  try with_reducible rfl
                try simp only [Act.put, List.setIfInBounds_toArray, List.set_cons_zero, List.set_cons_succ]
                refine wpAnyH_take (i := 15) (oi := { dst := some 129, op := Op.pick (Operand.tmp 127) (Operand.const (Value.bool true)) (Operand.tmp 128), type := 4, pos := "outright.go:109", after := #[{ on := 13, ground := Ground.data }, { on := 14, ground := Ground.data }], guard := none }) (v := ?_) rfl (by kernel_rfl) (by kernel_rfl) (by kernel_rfl) (fun _ _ _ h => h) (Or.inl ⟨by rfl, ?_⟩) hHeld ?_
                rotate_left
                · intro w hSw
                  clear hSw
                  go_simp
                  try with_reducible rfl
                try simp only [Act.put, List.setIfInBounds_toArray, List.set_cons_zero, List.set_cons_succ]
                refine wpAnyH_take (i := 16) (oi := { dst := some 130, op := Op.move (Operand.tmp 129), type := 4, pos := "outright.go:109", after := #[{ on := 15, ground := Ground.data }, { on := 13, ground := Ground.chain }], guard := none }) (v := ?_) rfl (by kernel_rfl) (by kernel_rfl) (by kernel_rfl) (fun _ _ _ h => h) (Or.inl ⟨by rfl, ?_⟩) hHeld ?_
                rotate_left
                · intro w hSw
                  clear hSw
                  go_simp
                  try with_reducible rfl
                try simp only [Act.put, List.setIfInBounds_toArray, List.set_cons_zero, List.set_cons_succ]
                refine wpAnyH_take (i := 17) (oi := { dst := some 131, op := Op.fieldAddr 47 (Operand.tmp 14) 0, type := 0, pos := "outright.go:109", after := #[{ on := 16, ground := Ground.guard }], guard := some (16, false) }) (v := ?_) rfl (by kernel_rfl) (by kernel_rfl) (by kernel_rfl) (fun _ _ _ h => h) (Or.inl ⟨by rfl, ?_⟩) hHeld ?_
                rotate_left
                · intro w hSw
                  clear hSw
                  go_simp
                  try with_reducible rfl
                try simp only [Act.put, List.setIfInBounds_toArray, List.set_cons_zero, List.set_cons_succ]
                refine wpAnyH_take (i := 18) (oi := { dst := some 132, op := Op.fieldAddr 29 (Operand.tmp 131) 0, type := 0, pos := "outright.go:109", after := #[{ on := 17, ground := Ground.data }, { on := 16, ground := Ground.guard }], guard := some (16, false) }) (v := ?_) rfl (by kernel_rfl) (by kernel_rfl) (by kernel_rfl) (fun _ _ _ h => h) (Or.inl ⟨by rfl, ?_⟩) hHeld ?_
                rotate_left
                · intro w hSw
                  clear hSw
                  go_simp
                  try with_reducible rfl
                try simp only [Act.put, List.setIfInBounds_toArray, List.set_cons_zero, List.set_cons_succ]
                refine wpAnyH_take (i := 19) (oi := { dst := some 133, op := Op.load 3 (Operand.tmp 132), type := 3, pos := "outright.go:109", after := #[{ on := 18, ground := Ground.data }, { on := 16, ground := Ground.guard }], guard := some (16, false) }) (v := ?_) rfl (by kernel_rfl) (by kernel_rfl) (by kernel_rfl) (fun _ _ _ h => h) (Or.inl ⟨by rfl, ?_⟩) hHeld ?_
                rotate_left
                · intro w hSw
                  obtain ⟨p0, p10, p28⟩ := HP3.out w hSw
                  go_simp
                  try with_reducible rfl
                try simp only [Act.put, List.setIfInBounds_toArray, List.set_cons_zero, List.set_cons_succ]
                refine wpAnyH_take (i := 20) (oi := { dst := some 134, op := Op.move (Operand.tmp 2), type := 3, pos := "outright.go:109", after := #[{ on := 16, ground := Ground.guard }], guard := some (16, false) }) (v := ?_) rfl (by kernel_rfl) (by kernel_rfl) (by kernel_rfl) (fun _ _ _ h => h) (Or.inl ⟨by rfl, ?_⟩) hHeld ?_
                rotate_left
                · intro w hSw
                  clear hSw
                  go_simp
                  try with_reducible rfl
                try simp only [Act.put, List.setIfInBounds_toArray, List.set_cons_zero, List.set_cons_succ]
                refine wpAnyH_take (i := 21) (oi := { dst := some 135, op := Op.binOp BinOp.neq 3 (Operand.tmp 133) (Operand.tmp 134) 3, type := 4, pos := "outright.go:109", after := #[{ on := 19, ground := Ground.data }, { on := 20, ground := Ground.data }, { on := 16, ground := Ground.guard }], guard := some (16, false) }) (v := ?_) rfl (by kernel_rfl) (by kernel_rfl) (by kernel_rfl) (fun _ _ _ h => h) (Or.inl ⟨by rfl, ?_⟩) hHeld ?_
                rotate_left
                · intro w hSw
                  clear hSw
                  go_simp
                  try with_reducible rfl
                try simp only [Act.put, List.setIfInBounds_toArray, List.set_cons_zero, List.set_cons_succ]
                refine wpAnyH_take (i := 22) (oi := { dst := some 136, op := Op.pick (Operand.tmp 130) (Operand.const (Value.bool true)) (Operand.tmp 135), type := 4, pos := "outright.go:109", after := #[{ on := 16, ground := Ground.data }, { on := 21, ground := Ground.data }], guard := none }) (v := ?_) rfl (by kernel_rfl) (by kernel_rfl) (by kernel_rfl) (fun _ _ _ h => h) (Or.inl ⟨by rfl, ?_⟩) hHeld ?_
                rotate_left
                · intro w hSw
                  clear hSw
                  go_simp
                  try with_reducible rfl
                try simp only [Act.put, List.setIfInBounds_toArray, List.set_cons_zero, List.set_cons_succ]
                refine wpAnyH_take (i := 23) (oi := { dst := some 137, op := Op.move (Operand.tmp 136), type := 4, pos := "outright.go:109", after := #[{ on := 22, ground := Ground.data }, { on := 16, ground := Ground.chain }], guard := none }) (v := ?_) rfl (by kernel_rfl) (by kernel_rfl) (by kernel_rfl) (fun _ _ _ h => h) (Or.inl ⟨by rfl, ?_⟩) hHeld ?_
                rotate_left
                · intro w hSw
                  clear hSw
                  go_simp
                  try with_reducible rfl
                try simp only [Act.put, List.setIfInBounds_toArray, List.set_cons_zero, List.set_cons_succ]
                refine wpAnyH_take (i := 24) (oi := { dst := some 138, op := Op.move (Operand.tmp 13), type := 3, pos := "outright.go:109", after := #[{ on := 23, ground := Ground.guard }], guard := some (23, false) }) (v := ?_) rfl (by kernel_rfl) (by kernel_rfl) (by kernel_rfl) (fun _ _ _ h => h) (Or.inl ⟨by rfl, ?_⟩) hHeld ?_
                rotate_left
                · intro w hSw
                  clear hSw
                  go_simp
                  try with_reducible rfl
                try simp only [Act.put, List.setIfInBounds_toArray, List.set_cons_zero, List.set_cons_succ]
                refine wpAnyH_take (i := 25) (oi := { dst := some 139, op := Op.binOp BinOp.gtr 3 (Operand.tmp 138) (Operand.const (Value.int IntKind.i64 0)) 3, type := 4, pos := "outright.go:109", after := #[{ on := 24, ground := Ground.data }, { on := 23, ground := Ground.guard }], guard := some (23, false) }) (v := ?_) rfl (by kernel_rfl) (by kernel_rfl) (by kernel_rfl) (fun _ _ _ h => h) (Or.inl ⟨by rfl, ?_⟩) hHeld ?_
                rotate_left
                · intro w hSw
                  clear hSw
                  go_simp
                  try with_reducible rfl
                try simp only [Act.put, List.setIfInBounds_toArray, List.set_cons_zero, List.set_cons_succ]
                refine wpAnyH_take (i := 26) (oi := { dst := some 140, op := Op.move (Operand.tmp 139), type := 4, pos := "outright.go:109", after := #[{ on := 25, ground := Ground.data }, { on := 23, ground := Ground.chain }, { on := 23, ground := Ground.guard }], guard := some (23, false) }) (v := ?_) rfl (by kernel_rfl) (by kernel_rfl) (by kernel_rfl) (fun _ _ _ h => h) (Or.inl ⟨by rfl, ?_⟩) hHeld ?_
                rotate_left
                · intro w hSw
                  clear hSw
                  go_simp
                  try with_reducible rfl
                try simp only [Act.put, List.setIfInBounds_toArray, List.set_cons_zero, List.set_cons_succ]
                refine wpAnyH_take (i := 27) (oi := { dst := some 141, op := Op.move (Operand.tmp 12), type := 22, pos := "outright.go:109", after := #[{ on := 26, ground := Ground.guard }], guard := some (26, true) }) (v := undef) rfl (by kernel_rfl) (by kernel_rfl) (by kernel_rfl) (fun _ _ _ h => h) (Or.inr ⟨by rfl, rfl⟩) hHeld ?_
                try simp only [Act.put, List.setIfInBounds_toArray, List.set_cons_zero, List.set_cons_succ]
                refine wpAnyH_take (i := 28) (oi := { dst := some 142, op := Op.move (Operand.tmp 13), type := 3, pos := "outright.go:109", after := #[{ on := 26, ground := Ground.guard }], guard := some (26, true) }) (v := undef) rfl (by kernel_rfl) (by kernel_rfl) (by kernel_rfl) (fun _ _ _ h => h) (Or.inr ⟨by rfl, rfl⟩) hHeld ?_
                try simp only [Act.put, List.setIfInBounds_toArray, List.set_cons_zero, List.set_cons_succ]
                refine wpAnyH_take (i := 29) (oi := { dst := some 143, op := Op.binOp BinOp.sub 3 (Operand.tmp 142) (Operand.const (Value.int IntKind.i64 1)) 3, type := 3, pos := "outright.go:109", after := #[{ on := 28, ground := Ground.data }, { on := 26, ground := Ground.guard }], guard := some (26, true) }) (v := undef) rfl (by kernel_rfl) (by kernel_rfl) (by kernel_rfl) (fun _ _ _ h => h) (Or.inr ⟨by rfl, rfl⟩) hHeld ?_
                try simp only [Act.put, List.setIfInBounds_toArray, List.set_cons_zero, List.set_cons_succ]
                refine wpAnyH_take (i := 30) (oi := { dst := some 144, op := Op.indexAddr 22 (Operand.tmp 141) (Operand.tmp 143), type := 0, pos := "outright.go:109", after := #[{ on := 27, ground := Ground.data }, { on := 29, ground := Ground.data }, { on := 26, ground := Ground.guard }], guard := some (26, true) }) (v := undef) rfl (by kernel_rfl) (by kernel_rfl) (by kernel_rfl) (fun _ _ _ h => h) (Or.inr ⟨by rfl, rfl⟩) hHeld ?_
                try simp only [Act.put, List.setIfInBounds_toArray, List.set_cons_zero, List.set_cons_succ]
                refine wpAnyH_take (i := 31) (oi := { dst := some 145, op := Op.fieldAddr 32 (Operand.tmp 144) 0, type := 0, pos := "outright.go:109", after := #[{ on := 30, ground := Ground.data }, { on := 26, ground := Ground.guard }], guard := some (26, true) }) (v := undef) rfl (by kernel_rfl) (by kernel_rfl) (by kernel_rfl) (fun _ _ _ h => h) (Or.inr ⟨by rfl, rfl⟩) hHeld ?_
                try simp only [Act.put, List.setIfInBounds_toArray, List.set_cons_zero, List.set_cons_succ]
                refine wpAnyH_take (i := 32) (oi := { dst := some 146, op := Op.load 29 (Operand.tmp 145), type := 29, pos := "outright.go:109", after := #[{ on := 31, ground := Ground.data }, { on := 26, ground := Ground.guard }], guard := some (26, true) }) (v := undef) rfl (by kernel_rfl) (by kernel_rfl) (by kernel_rfl) (fun _ _ _ h => h) (Or.inr ⟨by rfl, rfl⟩) hHeld ?_
                try simp only [Act.put, List.setIfInBounds_toArray, List.set_cons_zero, List.set_cons_succ]
                refine wpAnyH_take (i := 33) (oi := { dst := some 147, op := Op.move (Operand.tmp 12), type := 22, pos := "outright.go:109", after := #[{ on := 26, ground := Ground.guard }], guard := some (26, true) }) (v := undef) rfl (by kernel_rfl) (by kernel_rfl) (by kernel_rfl) (fun _ _ _ h => h) (Or.inr ⟨by rfl, rfl⟩) hHeld ?_
                try simp only [Act.put, List.setIfInBounds_toArray, List.set_cons_zero, List.set_cons_succ]
                refine wpAnyH_take (i := 34) (oi := { dst := some 148, op := Op.move (Operand.tmp 13), type := 3, pos := "outright.go:109", after := #[{ on := 26, ground := Ground.guard }], guard := some (26, true) }) (v := undef) rfl (by kernel_rfl) (by kernel_rfl) (by kernel_rfl) (fun _ _ _ h => h) (Or.inr ⟨by rfl, rfl⟩) hHeld ?_
                try simp only [Act.put, List.setIfInBounds_toArray, List.set_cons_zero, List.set_cons_succ]
                refine wpAnyH_take (i := 35) (oi := { dst := some 149, op := Op.indexAddr 22 (Operand.tmp 147) (Operand.tmp 148), type := 0, pos := "outright.go:109", after := #[{ on := 33, ground := Ground.data }, { on := 34, ground := Ground.data }, { on := 26, ground := Ground.guard }], guard := some (26, true) }) (v := undef) rfl (by kernel_rfl) (by kernel_rfl) (by kernel_rfl) (fun _ _ _ h => h) (Or.inr ⟨by rfl, rfl⟩) hHeld ?_
                try simp only [Act.put, List.setIfInBounds_toArray, List.set_cons_zero, List.set_cons_succ]
                refine wpAnyH_take (i := 36) (oi := { dst := some 150, op := Op.fieldAddr 32 (Operand.tmp 149) 0, type := 0, pos := "outright.go:109", after := #[{ on := 35, ground := Ground.data }, { on := 26, ground := Ground.guard }], guard := some (26, true) }) (v := undef) rfl (by kernel_rfl) (by kernel_rfl) (by kernel_rfl) (fun _ _ _ h => h) (Or.inr ⟨by rfl, rfl⟩) hHeld ?_
                try simp only [Act.put, List.setIfInBounds_toArray, List.set_cons_zero, List.set_cons_succ]
                refine wpAnyH_take (i := 37) (oi := { dst := some 151, op := Op.load 29 (Operand.tmp 150), type := 29, pos := "outright.go:109", after := #[{ on := 36, ground := Ground.data }, { on := 26, ground := Ground.guard }], guard := some (26, true) }) (v := undef) rfl (by kernel_rfl) (by kernel_rfl) (by kernel_rfl) (fun _ _ _ h => h) (Or.inr ⟨by rfl, rfl⟩) hHeld ?_
                try simp only [Act.put, List.setIfInBounds_toArray, List.set_cons_zero, List.set_cons_succ]
                refine wpAnyH_take (i := 38) (oi := { dst := some 152, op := Op.call { callee := Callee.value (Operand.func 19), args := #[Operand.tmp 146, Operand.tmp 151], argTypes := #[29, 29] }, type := 3, pos := "outright.go:109", after := #[{ on := 32, ground := Ground.data }, { on := 37, ground := Ground.data }, { on := 26, ground := Ground.chain }, { on := 26, ground := Ground.guard }], guard := some (26, true) }) (v := undef) rfl (by kernel_rfl) (by kernel_rfl) (by kernel_rfl) (fun _ _ _ h => h) (Or.inr ⟨by rfl, rfl⟩) hHeld ?_
                try simp only [Act.put, List.setIfInBounds_toArray, List.set_cons_zero, List.set_cons_succ]
                refine wpAnyH_take (i := 39) (oi := { dst := some 153, op := Op.binOp BinOp.gtr 3 (Operand.tmp 152) (Operand.const (Value.int IntKind.i64 0)) 3, type := 4, pos := "outright.go:109", after := #[{ on := 38, ground := Ground.data }, { on := 26, ground := Ground.guard }], guard := some (26, true) }) (v := undef) rfl (by kernel_rfl) (by kernel_rfl) (by kernel_rfl) (fun _ _ _ h => h) (Or.inr ⟨by rfl, rfl⟩) hHeld ?_
                try simp only [Act.put, List.setIfInBounds_toArray, List.set_cons_zero, List.set_cons_succ]
                refine wpAnyH_take (i := 40) (oi := { dst := some 154, op := Op.move (Operand.tmp 153), type := 4, pos := "outright.go:109", after := #[{ on := 39, ground := Ground.data }, { on := 38, ground := Ground.chain }, { on := 26, ground := Ground.guard }], guard := some (26, true) }) (v := undef) rfl (by kernel_rfl) (by kernel_rfl) (by kernel_rfl) (fun _ _ _ h => h) (Or.inr ⟨by rfl, rfl⟩) hHeld ?_
                try simp only [Act.put, List.setIfInBounds_toArray, List.set_cons_zero, List.set_cons_succ]
                refine wpAnyH_take (i := 41) (oi := { dst := some 155, op := Op.move (Operand.tmp 12), type := 22, pos := "outright.go:109", after := #[{ on := 40, ground := Ground.guard }], guard := some (40, false) }) (v := undef) rfl (by kernel_rfl) (by kernel_rfl) (by kernel_rfl) (fun _ _ _ h => h) (Or.inr ⟨by rfl, rfl⟩) hHeld ?_
                try simp only [Act.put, List.setIfInBounds_toArray, List.set_cons_zero, List.set_cons_succ]
                refine wpAnyH_take (i := 42) (oi := { dst := some 156, op := Op.move (Operand.tmp 13), type := 3, pos := "outright.go:109", after := #[{ on := 40, ground := Ground.guard }], guard := some (40, false) }) (v := undef) rfl (by kernel_rfl) (by kernel_rfl) (by kernel_rfl) (fun _ _ _ h => h) (Or.inr ⟨by rfl, rfl⟩) hHeld ?_
                try simp only [Act.put, List.setIfInBounds_toArray, List.set_cons_zero, List.set_cons_succ]
                refine wpAnyH_take (i := 43) (oi := { dst := some 157, op := Op.binOp BinOp.sub 3 (Operand.tmp 156) (Operand.const (Value.int IntKind.i64 1)) 3, type := 3, pos := "outright.go:109", after := #[{ on := 42, ground := Ground.data }, { on := 40, ground := Ground.guard }], guard := some (40, false) }) (v := undef) rfl (by kernel_rfl) (by kernel_rfl) (by kernel_rfl) (fun _ _ _ h => h) (Or.inr ⟨by rfl, rfl⟩) hHeld ?_
                try simp only [Act.put, List.setIfInBounds_toArray, List.set_cons_zero, List.set_cons_succ]
                refine wpAnyH_take (i := 44) (oi := { dst := some 158, op := Op.indexAddr 22 (Operand.tmp 155) (Operand.tmp 157), type := 0, pos := "outright.go:109", after := #[{ on := 41, ground := Ground.data }, { on := 43, ground := Ground.data }, { on := 40, ground := Ground.guard }], guard := some (40, false) }) (v := undef) rfl (by kernel_rfl) (by kernel_rfl) (by kernel_rfl) (fun _ _ _ h => h) (Or.inr ⟨by rfl, rfl⟩) hHeld ?_
                try simp only [Act.put, List.setIfInBounds_toArray, List.set_cons_zero, List.set_cons_succ]
                refine wpAnyH_take (i := 45) (oi := { dst := some 159, op := Op.fieldAddr 32 (Operand.tmp 158) 0, type := 0, pos := "outright.go:109", after := #[{ on := 44, ground := Ground.data }, { on := 40, ground := Ground.guard }], guard := some (40, false) }) (v := undef) rfl (by kernel_rfl) (by kernel_rfl) (by kernel_rfl) (fun _ _ _ h => h) (Or.inr ⟨by rfl, rfl⟩) hHeld ?_
                try simp only [Act.put, List.setIfInBounds_toArray, List.set_cons_zero, List.set_cons_succ]
                refine wpAnyH_take (i := 46) (oi := { dst := some 160, op := Op.load 29 (Operand.tmp 159), type := 29, pos := "outright.go:109", after := #[{ on := 45, ground := Ground.data }, { on := 40, ground := Ground.guard }], guard := some (40, false) }) (v := undef) rfl (by kernel_rfl) (by kernel_rfl) (by kernel_rfl) (fun _ _ _ h => h) (Or.inr ⟨by rfl, rfl⟩) hHeld ?_
                try simp only [Act.put, List.setIfInBounds_toArray, List.set_cons_zero, List.set_cons_succ]
                refine wpAnyH_take (i := 47) (oi := { dst := some 161, op := Op.move (Operand.tmp 12), type := 22, pos := "outright.go:109", after := #[{ on := 40, ground := Ground.guard }], guard := some (40, false) }) (v := undef) rfl (by kernel_rfl) (by kernel_rfl) (by kernel_rfl) (fun _ _ _ h => h) (Or.inr ⟨by rfl, rfl⟩) hHeld ?_
                try simp only [Act.put, List.setIfInBounds_toArray, List.set_cons_zero, List.set_cons_succ]
                refine wpAnyH_take (i := 48) (oi := { dst := some 162, op := Op.move (Operand.tmp 13), type := 3, pos := "outright.go:109", after := #[{ on := 40, ground := Ground.guard }], guard := some (40, false) }) (v := undef) rfl (by kernel_rfl) (by kernel_rfl) (by kernel_rfl) (fun _ _ _ h => h) (Or.inr ⟨by rfl, rfl⟩) hHeld ?_
                try simp only [Act.put, List.setIfInBounds_toArray, List.set_cons_zero, List.set_cons_succ]
                refine wpAnyH_take (i := 49) (oi := { dst := some 163, op := Op.indexAddr 22 (Operand.tmp 161) (Operand.tmp 162), type := 0, pos := "outright.go:109", after := #[{ on := 47, ground := Ground.data }, { on := 48, ground := Ground.data }, { on := 40, ground := Ground.guard }], guard := some (40, false) }) (v := undef) rfl (by kernel_rfl) (by kernel_rfl) (by kernel_rfl) (fun _ _ _ h => h) (Or.inr ⟨by rfl, rfl⟩) hHeld ?_
                try simp only [Act.put, List.setIfInBounds_toArray, List.set_cons_zero, List.set_cons_succ]
                refine wpAnyH_take (i := 50) (oi := { dst := some 164, op := Op.fieldAddr 32 (Operand.tmp 163) 0, type := 0, pos := "outright.go:109", after := #[{ on := 49, ground := Ground.data }, { on := 40, ground := Ground.guard }], guard := some (40, false) }) (v := undef) rfl (by kernel_rfl) (by kernel_rfl) (by kernel_rfl) (fun _ _ _ h => h) (Or.inr ⟨by rfl, rfl⟩) hHeld ?_
                try simp only [Act.put, List.setIfInBounds_toArray, List.set_cons_zero, List.set_cons_succ]
                refine wpAnyH_take (i := 51) (oi := { dst := some 165, op := Op.load 29 (Operand.tmp 164), type := 29, pos := "outright.go:109", after := #[{ on := 50, ground := Ground.data }, { on := 40, ground := Ground.guard }], guard := some (40, false) }) (v := undef) rfl (by kernel_rfl) (by kernel_rfl) (by kernel_rfl) (fun _ _ _ h => h) (Or.inr ⟨by rfl, rfl⟩) hHeld ?_
                try simp only [Act.put, List.setIfInBounds_toArray, List.set_cons_zero, List.set_cons_succ]
                refine wpAnyH_take (i := 52) (oi := { dst := some 166, op := Op.binOp BinOp.eql 29 (Operand.tmp 160) (Operand.tmp 165) 29, type := 4, pos := "outright.go:109", after := #[{ on := 46, ground := Ground.data }, { on := 51, ground := Ground.data }, { on := 40, ground := Ground.guard }], guard := some (40, false) }) (v := undef) rfl (by kernel_rfl) (by kernel_rfl) (by kernel_rfl) (fun _ _ _ h => h) (Or.inr ⟨by rfl, rfl⟩) hHeld ?_
                try simp only [Act.put, List.setIfInBounds_toArray, List.set_cons_zero, List.set_cons_succ]
                refine wpAnyH_take (i := 53) (oi := { dst := some 167, op := Op.move (Operand.tmp 166), type := 4, pos := "outright.go:109", after := #[{ on := 52, ground := Ground.data }, { on := 40, ground := Ground.chain }, { on := 40, ground := Ground.guard }], guard := some (40, false) }) (v := undef) rfl (by kernel_rfl) (by kernel_rfl) (by kernel_rfl) (fun _ _ _ h => h) (Or.inr ⟨by rfl, rfl⟩) hHeld ?_
                try simp only [Act.put, List.setIfInBounds_toArray, List.set_cons_zero, List.set_cons_succ]
                refine wpAnyH_take (i := 54) (oi := { dst := some 168, op := Op.move (Operand.tmp 12), type := 22, pos := "outright.go:109", after := #[{ on := 53, ground := Ground.guard }], guard := some (53, true) }) (v := undef) rfl (by kernel_rfl) (by kernel_rfl) (by kernel_rfl) (fun _ _ _ h => h) (Or.inr ⟨by rfl, rfl⟩) hHeld ?_
                try simp only [Act.put, List.setIfInBounds_toArray, List.set_cons_zero, List.set_cons_succ]
                refine wpAnyH_take (i := 55) (oi := { dst := some 169, op := Op.move (Operand.tmp 13), type := 3, pos := "outright.go:109", after := #[{ on := 53, ground := Ground.guard }], guard := some (53, true) }) (v := undef) rfl (by kernel_rfl) (by kernel_rfl) (by kernel_rfl) (fun _ _ _ h => h) (Or.inr ⟨by rfl, rfl⟩) hHeld ?_
                try simp only [Act.put, List.setIfInBounds_toArray, List.set_cons_zero, List.set_cons_succ]
                refine wpAnyH_take (i := 56) (oi := { dst := some 170, op := Op.binOp BinOp.sub 3 (Operand.tmp 169) (Operand.const (Value.int IntKind.i64 1)) 3, type := 3, pos := "outright.go:109", after := #[{ on := 55, ground := Ground.data }, { on := 53, ground := Ground.guard }], guard := some (53, true) }) (v := undef) rfl (by kernel_rfl) (by kernel_rfl) (by kernel_rfl) (fun _ _ _ h => h) (Or.inr ⟨by rfl, rfl⟩) hHeld ?_
                try simp only [Act.put, List.setIfInBounds_toArray, List.set_cons_zero, List.set_cons_succ]
                refine wpAnyH_take (i := 57) (oi := { dst := some 171, op := Op.indexAddr 22 (Operand.tmp 168) (Operand.tmp 170), type := 0, pos := "outright.go:109", after := #[{ on := 54, ground := Ground.data }, { on := 56, ground := Ground.data }, { on := 53, ground := Ground.guard }], guard := some (53, true) }) (v := undef) rfl (by kernel_rfl) (by kernel_rfl) (by kernel_rfl) (fun _ _ _ h => h) (Or.inr ⟨by rfl, rfl⟩) hHeld ?_
                try simp only [Act.put, List.setIfInBounds_toArray, List.set_cons_zero, List.set_cons_succ]
                refine wpAnyH_take (i := 58) (oi := { dst := some 172, op := Op.fieldAddr 32 (Operand.tmp 171) 1, type := 0, pos := "outright.go:109", after := #[{ on := 57, ground := Ground.data }, { on := 53, ground := Ground.guard }], guard := some (53, true) }) (v := undef) rfl (by kernel_rfl) (by kernel_rfl) (by kernel_rfl) (fun _ _ _ h => h) (Or.inr ⟨by rfl, rfl⟩) hHeld ?_
                try simp only [Act.put, List.setIfInBounds_toArray, List.set_cons_zero, List.set_cons_succ]
                refine wpAnyH_take (i := 59) (oi := { dst := some 173, op := Op.load 30 (Operand.tmp 172), type := 30, pos := "outright.go:109", after := #[{ on := 58, ground := Ground.data }, { on := 53, ground := Ground.guard }], guard := some (53, true) }) (v := undef) rfl (by kernel_rfl) (by kernel_rfl) (by kernel_rfl) (fun _ _ _ h => h) (Or.inr ⟨by rfl, rfl⟩) hHeld ?_
                try simp only [Act.put, List.setIfInBounds_toArray, List.set_cons_zero, List.set_cons_succ]
                refine wpAnyH_take (i := 60) (oi := { dst := some 174, op := Op.move (Operand.tmp 12), type := 22, pos := "outright.go:109", after := #[{ on := 53, ground := Ground.guard }], guard := some (53, true) }) (v := undef) rfl (by kernel_rfl) (by kernel_rfl) (by kernel_rfl) (fun _ _ _ h => h) (Or.inr ⟨by rfl, rfl⟩) hHeld ?_
                try simp only [Act.put, List.setIfInBounds_toArray, List.set_cons_zero, List.set_cons_succ]
                refine wpAnyH_take (i := 61) (oi := { dst := some 175, op := Op.move (Operand.tmp 13), type := 3, pos := "outright.go:109", after := #[{ on := 53, ground := Ground.guard }], guard := some (53, true) }) (v := undef) rfl (by kernel_rfl) (by kernel_rfl) (by kernel_rfl) (fun _ _ _ h => h) (Or.inr ⟨by rfl, rfl⟩) hHeld ?_
                try simp only [Act.put, List.setIfInBounds_toArray, List.set_cons_zero, List.set_cons_succ]
                refine wpAnyH_take (i := 62) (oi := { dst := some 176, op := Op.indexAddr 22 (Operand.tmp 174) (Operand.tmp 175), type := 0, pos := "outright.go:109", after := #[{ on := 60, ground := Ground.data }, { on := 61, ground := Ground.data }, { on := 53, ground := Ground.guard }], guard := some (53, true) }) (v := undef) rfl (by kernel_rfl) (by kernel_rfl) (by kernel_rfl) (fun _ _ _ h => h) (Or.inr ⟨by rfl, rfl⟩) hHeld ?_
                try simp only [Act.put, List.setIfInBounds_toArray, List.set_cons_zero, List.set_cons_succ]
                refine wpAnyH_take (i := 63) (oi := { dst := some 177, op := Op.fieldAddr 32 (Operand.tmp 176) 1, type := 0, pos := "outright.go:109", after := #[{ on := 62, ground := Ground.data }, { on := 53, ground := Ground.guard }], guard := some (53, true) }) (v := undef) rfl (by kernel_rfl) (by kernel_rfl) (by kernel_rfl) (fun _ _ _ h => h) (Or.inr ⟨by rfl, rfl⟩) hHeld ?_
                try simp only [Act.put, List.setIfInBounds_toArray, List.set_cons_zero, List.set_cons_succ]
                refine wpAnyH_take (i := 64) (oi := { dst := some 178, op := Op.load 30 (Operand.tmp 177), type := 30, pos := "outright.go:109", after := #[{ on := 63, ground := Ground.data }, { on := 53, ground := Ground.guard }], guard := some (53, true) }) (v := undef) rfl (by kernel_rfl) (by kernel_rfl) (by kernel_rfl) (fun _ _ _ h => h) (Or.inr ⟨by rfl, rfl⟩) hHeld ?_
                try simp only [Act.put, List.setIfInBounds_toArray, List.set_cons_zero, List.set_cons_succ]
                refine wpAnyH_take (i := 65) (oi := { dst := some 179, op := Op.binOp BinOp.geq 30 (Operand.tmp 173) (Operand.tmp 178) 30, type := 4, pos := "outright.go:109", after := #[{ on := 59, ground := Ground.data }, { on := 64, ground := Ground.data }, { on := 53, ground := Ground.guard }], guard := some (53, true) }) (v := undef) rfl (by kernel_rfl) (by kernel_rfl) (by kernel_rfl) (fun _ _ _ h => h) (Or.inr ⟨by rfl, rfl⟩) hHeld ?_
                try simp only [Act.put, List.setIfInBounds_toArray, List.set_cons_zero, List.set_cons_succ]
                refine wpAnyH_take (i := 66) (oi := { dst := some 180, op := Op.pick (Operand.tmp 167) (Operand.tmp 179) (Operand.const (Value.bool false)), type := 4, pos := "outright.go:109", after := #[{ on := 53, ground := Ground.data }, { on := 65, ground := Ground.data }, { on := 40, ground := Ground.guard }], guard := some (40, false) }) (v := undef) rfl (by kernel_rfl) (by kernel_rfl) (by kernel_rfl) (fun _ _ _ h => h) (Or.inr ⟨by rfl, rfl⟩) hHeld ?_
                try simp only [Act.put, List.setIfInBounds_toArray, List.set_cons_zero, List.set_cons_succ]
                refine wpAnyH_take (i := 67) (oi := { dst := some 181, op := Op.pick (Operand.tmp 154) (Operand.const (Value.bool true)) (Operand.tmp 180), type := 4, pos := "outright.go:109", after := #[{ on := 40, ground := Ground.data }, { on := 66, ground := Ground.data }, { on := 26, ground := Ground.guard }], guard := some (26, true) }) (v := undef) rfl (by kernel_rfl) (by kernel_rfl) (by kernel_rfl) (fun _ _ _ h => h) (Or.inr ⟨by rfl, rfl⟩) hHeld ?_
                try simp only [Act.put, List.setIfInBounds_toArray, List.set_cons_zero, List.set_cons_succ]
                refine wpAnyH_take (i := 68) (oi := { dst := some 182, op := Op.pick (Operand.tmp 140) (Operand.tmp 181) (Operand.const (Value.bool false)), type := 4, pos := "outright.go:109", after := #[{ on := 26, ground := Ground.data }, { on := 67, ground := Ground.data }, { on := 23, ground := Ground.guard }], guard := some (23, false) }) (v := ?_) rfl (by kernel_rfl) (by kernel_rfl) (by kernel_rfl) (fun _ _ _ h => h) (Or.inl ⟨by rfl, ?_⟩) hHeld ?_
                rotate_left
                · intro w hSw
                  clear hSw
                  go_simp
                  try with_reducible rfl
                try simp only [Act.put, List.setIfInBounds_toArray, List.set_cons_zero, List.set_cons_succ]
                refine wpAnyH_take (i := 69) (oi := { dst := some 183, op := Op.pick (Operand.tmp 137) (Operand.const (Value.bool true)) (Operand.tmp 182), type := 4, pos := "outright.go:109", after := #[{ on := 23, ground := Ground.data }, { on := 68, ground := Ground.data }], guard := none }) (v := ?_) rfl (by kernel_rfl) (by kernel_rfl) (by kernel_rfl) (fun _ _ _ h => h) (Or.inl ⟨by rfl, ?_⟩) hHeld ?_
                rotate_left
                · intro w hSw
                  clear hSw
                  go_simp
                  try with_reducible rfl
                try simp only [Act.put, List.setIfInBounds_toArray, List.set_cons_zero, List.set_cons_succ]
                refine wpAnyH_done (by kernel_rfl) ?_ _
                go_upto_region 22 with fail
                refine rb_name fun Z8 hZ8 => ?_
                have HB8 : Hid (Below Z.heap.size Z Z8) := HBY5.out.trans (Below.mono (by rw [hZ8]; exact hHeld) HBY5.out.size)
                clear hZ8 hHeld
                go_wp2_with fail
                exact ⟨⟨1, by go_num, by omega, HB8.out⟩, by simp [intOf] <;> omega⟩
              · obtain ⟨k, hnk⟩ : ∃ k, k + 1 = n := ⟨n - 1, by omega⟩
                clear h0
                have hkl : k < T.length := by omega
                have hkn : 0 < n := by omega
                have hw1 : IntKind.i64.wrap ((n : Int) - 1) = (k : Int) := by rw [IntWalk.i64_in _ (by omega)]; omega
                obtain ⟨y0, hy⟩ : ∃ y, T[k]? = some y := ⟨T[k]'hkl, List.getElem?_eq_getElem _⟩
                have hrow2 := HT.out.rowAt hy
                obtain ⟨hpc, hid2⟩ := HTP.out.next k y0 ⟨x, xl⟩ hy (by rw [hnk]; exact HX.out)
                obtain ⟨y, yl⟩ := y0
                dsimp only at hrow2 hpc hid2
                have HROWK : Hid (∀ W, Below Z.heap.size Z W → W.cell? ⟨b0, off + k * 6, none⟩ = some (.int .i64 y.fam) ∧ W.cell? ⟨b0, off + k * 6 + 1, none⟩ = some (.int .u64 y.rd) ∧ W.cell? ⟨b0, off + k * 6 + 2, none⟩ = some (.string y.addr) ∧ W.cell? ⟨b0, off + k * 6 + 3, none⟩ = some (.int .i64 y.len) ∧ W.cell? ⟨b0, off + k * 6 + 4, none⟩ = some (.int .u32 (y.id : Nat)) ∧ W.cell? ⟨b0, off + k * 6 + 5, none⟩ = some (.int .u32 (yl : Nat))) := hrow2
                have HCMP : Hid (∀ W, Calls Try.prog 19 #[.agg #[.int .i64 y.fam, .int .u64 y.rd, .string y.addr, .int .i64 y.len], .agg #[.int .i64 x.fam, .int .u64 x.rd, .string x.addr, .int .i64 x.len]] W fun e w' => e = .returned (.int .i64 (pcF y x)) ∧ Below W.heap.size W w') := fun W => (pcmp_any y x W).mono fun e w' h => ⟨h.1, h.2.below⟩
                generalize pcF y x = pc at HCMP hpc
                have hpc2 : ¬ 0 < pc := by omega
                have HID2 := Lib.hid hid2
                clear hy hrow2 hid2 hpc hnk
                by_cases hpf : y.fam = x.fam ∧ y.rd = x.rd ∧ y.addr = x.addr ∧ y.len = x.len
                · have HPF := Lib.hid hpf
                  have HID := Lib.hid (HID2.out hpf)
                  clear hpf
                  refine wp_region_eqD [{ dst := some 114, op := Op.move (Operand.tmp 15), type := 4, pos := "outright.go:109", after := #[], guard := none }, { dst := some 115, op := Op.unOp UnOp.not 4 (Operand.tmp 114), type := 4, pos := "outright.go:109", after := #[{ on := 0, ground := Ground.data }], guard := none }, { dst := some 116, op := Op.move (Operand.tmp 115), type := 4, pos := "outright.go:109", after := #[{ on := 1, ground := Ground.data }], guard := none }, { dst := some 117, op := Op.fieldAddr 47 (Operand.tmp 14) 5, type := 0, pos := "outright.go:109", after := #[{ on := 2, ground := Ground.guard }], guard := some (2, false) }, { dst := some 118, op := Op.load 4 (Operand.tmp 117), type := 4, pos := "outright.go:109", after := #[{ on := 3, ground := Ground.data }, { on := 2, ground := Ground.guard }], guard := some (2, false) }, { dst := some 119, op := Op.unOp UnOp.not 4 (Operand.tmp 118), type := 4, pos := "outright.go:109", after := #[{ on := 4, ground := Ground.data }, { on := 2, ground := Ground.guard }], guard := some (2, false) }, { dst := some 120, op := Op.pick (Operand.tmp 116) (Operand.const (Value.bool true)) (Operand.tmp 119), type := 4, pos := "outright.go:109", after := #[{ on := 2, ground := Ground.data }, { on := 5, ground := Ground.data }], guard := none }, { dst := some 121, op := Op.move (Operand.tmp 120), type := 4, pos := "outright.go:109", after := #[{ on := 6, ground := Ground.data }, { on := 2, ground := Ground.chain }], guard := none }, { dst := some 122, op := Op.fieldAddr 47 (Operand.tmp 14) 3, type := 0, pos := "outright.go:109", after := #[{ on := 7, ground := Ground.guard }], guard := some (7, false) }, { dst := some 123, op := Op.fieldAddr 41 (Operand.tmp 122) 4, type := 0, pos := "outright.go:109", after := #[{ on := 8, ground := Ground.data }, { on := 7, ground := Ground.guard }], guard := some (7, false) }, { dst := some 124, op := Op.load 30 (Operand.tmp 123), type := 30, pos := "outright.go:109", after := #[{ on := 9, ground := Ground.data }, { on := 7, ground := Ground.guard }], guard := some (7, false) }, { dst := some 125, op := Op.binOp BinOp.neq 30 (Operand.tmp 124) (Operand.const (Value.int IntKind.u32 1)) 30, type := 4, pos := "outright.go:109", after := #[{ on := 10, ground := Ground.data }, { on := 7, ground := Ground.guard }], guard := some (7, false) }, { dst := some 126, op := Op.pick (Operand.tmp 121) (Operand.const (Value.bool true)) (Operand.tmp 125), type := 4, pos := "outright.go:109", after := #[{ on := 7, ground := Ground.data }, { on := 11, ground := Ground.data }], guard := none }, { dst := some 127, op := Op.move (Operand.tmp 126), type := 4, pos := "outright.go:109", after := #[{ on := 12, ground := Ground.data }, { on := 7, ground := Ground.chain }], guard := none }, { dst := some 128, op := Op.move (Operand.tmp 17), type := 4, pos := "outright.go:109", after := #[{ on := 13, ground := Ground.guard }], guard := some (13, false) }, { dst := some 129, op := Op.pick (Operand.tmp 127) (Operand.const (Value.bool true)) (Operand.tmp 128), type := 4, pos := "outright.go:109", after := #[{ on := 13, ground := Ground.data }, { on := 14, ground := Ground.data }], guard := none }, { dst := some 130, op := Op.move (Operand.tmp 129), type := 4, pos := "outright.go:109", after := #[{ on := 15, ground := Ground.data }, { on := 13, ground := Ground.chain }], guard := none }, { dst := some 131, op := Op.fieldAddr 47 (Operand.tmp 14) 0, type := 0, pos := "outright.go:109", after := #[{ on := 16, ground := Ground.guard }], guard := some (16, false) }, { dst := some 132, op := Op.fieldAddr 29 (Operand.tmp 131) 0, type := 0, pos := "outright.go:109", after := #[{ on := 17, ground := Ground.data }, { on := 16, ground := Ground.guard }], guard := some (16, false) }, { dst := some 133, op := Op.load 3 (Operand.tmp 132), type := 3, pos := "outright.go:109", after := #[{ on := 18, ground := Ground.data }, { on := 16, ground := Ground.guard }], guard := some (16, false) }, { dst := some 134, op := Op.move (Operand.tmp 2), type := 3, pos := "outright.go:109", after := #[{ on := 16, ground := Ground.guard }], guard := some (16, false) }, { dst := some 135, op := Op.binOp BinOp.neq 3 (Operand.tmp 133) (Operand.tmp 134) 3, type := 4, pos := "outright.go:109", after := #[{ on := 19, ground := Ground.data }, { on := 20, ground := Ground.data }, { on := 16, ground := Ground.guard }], guard := some (16, false) }, { dst := some 136, op := Op.pick (Operand.tmp 130) (Operand.const (Value.bool true)) (Operand.tmp 135), type := 4, pos := "outright.go:109", after := #[{ on := 16, ground := Ground.data }, { on := 21, ground := Ground.data }], guard := none }, { dst := some 137, op := Op.move (Operand.tmp 136), type := 4, pos := "outright.go:109", after := #[{ on := 22, ground := Ground.data }, { on := 16, ground := Ground.chain }], guard := none }, { dst := some 138, op := Op.move (Operand.tmp 13), type := 3, pos := "outright.go:109", after := #[{ on := 23, ground := Ground.guard }], guard := some (23, false) }, { dst := some 139, op := Op.binOp BinOp.gtr 3 (Operand.tmp 138) (Operand.const (Value.int IntKind.i64 0)) 3, type := 4, pos := "outright.go:109", after := #[{ on := 24, ground := Ground.data }, { on := 23, ground := Ground.guard }], guard := some (23, false) }, { dst := some 140, op := Op.move (Operand.tmp 139), type := 4, pos := "outright.go:109", after := #[{ on := 25, ground := Ground.data }, { on := 23, ground := Ground.chain }, { on := 23, ground := Ground.guard }], guard := some (23, false) }, { dst := some 141, op := Op.move (Operand.tmp 12), type := 22, pos := "outright.go:109", after := #[{ on := 26, ground := Ground.guard }], guard := some (26, true) }, { dst := some 142, op := Op.move (Operand.tmp 13), type := 3, pos := "outright.go:109", after := #[{ on := 26, ground := Ground.guard }], guard := some (26, true) }, { dst := some 143, op := Op.binOp BinOp.sub 3 (Operand.tmp 142) (Operand.const (Value.int IntKind.i64 1)) 3, type := 3, pos := "outright.go:109", after := #[{ on := 28, ground := Ground.data }, { on := 26, ground := Ground.guard }], guard := some (26, true) }, { dst := some 144, op := Op.indexAddr 22 (Operand.tmp 141) (Operand.tmp 143), type := 0, pos := "outright.go:109", after := #[{ on := 27, ground := Ground.data }, { on := 29, ground := Ground.data }, { on := 26, ground := Ground.guard }], guard := some (26, true) }, { dst := some 145, op := Op.fieldAddr 32 (Operand.tmp 144) 0, type := 0, pos := "outright.go:109", after := #[{ on := 30, ground := Ground.data }, { on := 26, ground := Ground.guard }], guard := some (26, true) }, { dst := some 146, op := Op.load 29 (Operand.tmp 145), type := 29, pos := "outright.go:109", after := #[{ on := 31, ground := Ground.data }, { on := 26, ground := Ground.guard }], guard := some (26, true) }, { dst := some 147, op := Op.move (Operand.tmp 12), type := 22, pos := "outright.go:109", after := #[{ on := 26, ground := Ground.guard }], guard := some (26, true) }, { dst := some 148, op := Op.move (Operand.tmp 13), type := 3, pos := "outright.go:109", after := #[{ on := 26, ground := Ground.guard }], guard := some (26, true) }, { dst := some 149, op := Op.indexAddr 22 (Operand.tmp 147) (Operand.tmp 148), type := 0, pos := "outright.go:109", after := #[{ on := 33, ground := Ground.data }, { on := 34, ground := Ground.data }, { on := 26, ground := Ground.guard }], guard := some (26, true) }, { dst := some 150, op := Op.fieldAddr 32 (Operand.tmp 149) 0, type := 0, pos := "outright.go:109", after := #[{ on := 35, ground := Ground.data }, { on := 26, ground := Ground.guard }], guard := some (26, true) }, { dst := some 151, op := Op.load 29 (Operand.tmp 150), type := 29, pos := "outright.go:109", after := #[{ on := 36, ground := Ground.data }, { on := 26, ground := Ground.guard }], guard := some (26, true) }, { dst := some 152, op := Op.call { callee := Callee.value (Operand.func 19), args := #[Operand.tmp 146, Operand.tmp 151], argTypes := #[29, 29] }, type := 3, pos := "outright.go:109", after := #[{ on := 32, ground := Ground.data }, { on := 37, ground := Ground.data }, { on := 26, ground := Ground.chain }, { on := 26, ground := Ground.guard }], guard := some (26, true) }, { dst := some 153, op := Op.binOp BinOp.gtr 3 (Operand.tmp 152) (Operand.const (Value.int IntKind.i64 0)) 3, type := 4, pos := "outright.go:109", after := #[{ on := 38, ground := Ground.data }, { on := 26, ground := Ground.guard }], guard := some (26, true) }, { dst := some 154, op := Op.move (Operand.tmp 153), type := 4, pos := "outright.go:109", after := #[{ on := 39, ground := Ground.data }, { on := 38, ground := Ground.chain }, { on := 26, ground := Ground.guard }], guard := some (26, true) }, { dst := some 155, op := Op.move (Operand.tmp 12), type := 22, pos := "outright.go:109", after := #[{ on := 40, ground := Ground.guard }], guard := some (40, false) }, { dst := some 156, op := Op.move (Operand.tmp 13), type := 3, pos := "outright.go:109", after := #[{ on := 40, ground := Ground.guard }], guard := some (40, false) }, { dst := some 157, op := Op.binOp BinOp.sub 3 (Operand.tmp 156) (Operand.const (Value.int IntKind.i64 1)) 3, type := 3, pos := "outright.go:109", after := #[{ on := 42, ground := Ground.data }, { on := 40, ground := Ground.guard }], guard := some (40, false) }, { dst := some 158, op := Op.indexAddr 22 (Operand.tmp 155) (Operand.tmp 157), type := 0, pos := "outright.go:109", after := #[{ on := 41, ground := Ground.data }, { on := 43, ground := Ground.data }, { on := 40, ground := Ground.guard }], guard := some (40, false) }, { dst := some 159, op := Op.fieldAddr 32 (Operand.tmp 158) 0, type := 0, pos := "outright.go:109", after := #[{ on := 44, ground := Ground.data }, { on := 40, ground := Ground.guard }], guard := some (40, false) }, { dst := some 160, op := Op.load 29 (Operand.tmp 159), type := 29, pos := "outright.go:109", after := #[{ on := 45, ground := Ground.data }, { on := 40, ground := Ground.guard }], guard := some (40, false) }, { dst := some 161, op := Op.move (Operand.tmp 12), type := 22, pos := "outright.go:109", after := #[{ on := 40, ground := Ground.guard }], guard := some (40, false) }, { dst := some 162, op := Op.move (Operand.tmp 13), type := 3, pos := "outright.go:109", after := #[{ on := 40, ground := Ground.guard }], guard := some (40, false) }, { dst := some 163, op := Op.indexAddr 22 (Operand.tmp 161) (Operand.tmp 162), type := 0, pos := "outright.go:109", after := #[{ on := 47, ground := Ground.data }, { on := 48, ground := Ground.data }, { on := 40, ground := Ground.guard }], guard := some (40, false) }, { dst := some 164, op := Op.fieldAddr 32 (Operand.tmp 163) 0, type := 0, pos := "outright.go:109", after := #[{ on := 49, ground := Ground.data }, { on := 40, ground := Ground.guard }], guard := some (40, false) }, { dst := some 165, op := Op.load 29 (Operand.tmp 164), type := 29, pos := "outright.go:109", after := #[{ on := 50, ground := Ground.data }, { on := 40, ground := Ground.guard }], guard := some (40, false) }, { dst := some 166, op := Op.binOp BinOp.eql 29 (Operand.tmp 160) (Operand.tmp 165) 29, type := 4, pos := "outright.go:109", after := #[{ on := 46, ground := Ground.data }, { on := 51, ground := Ground.data }, { on := 40, ground := Ground.guard }], guard := some (40, false) }, { dst := some 167, op := Op.move (Operand.tmp 166), type := 4, pos := "outright.go:109", after := #[{ on := 52, ground := Ground.data }, { on := 40, ground := Ground.chain }, { on := 40, ground := Ground.guard }], guard := some (40, false) }, { dst := some 168, op := Op.move (Operand.tmp 12), type := 22, pos := "outright.go:109", after := #[{ on := 53, ground := Ground.guard }], guard := some (53, true) }, { dst := some 169, op := Op.move (Operand.tmp 13), type := 3, pos := "outright.go:109", after := #[{ on := 53, ground := Ground.guard }], guard := some (53, true) }, { dst := some 170, op := Op.binOp BinOp.sub 3 (Operand.tmp 169) (Operand.const (Value.int IntKind.i64 1)) 3, type := 3, pos := "outright.go:109", after := #[{ on := 55, ground := Ground.data }, { on := 53, ground := Ground.guard }], guard := some (53, true) }, { dst := some 171, op := Op.indexAddr 22 (Operand.tmp 168) (Operand.tmp 170), type := 0, pos := "outright.go:109", after := #[{ on := 54, ground := Ground.data }, { on := 56, ground := Ground.data }, { on := 53, ground := Ground.guard }], guard := some (53, true) }, { dst := some 172, op := Op.fieldAddr 32 (Operand.tmp 171) 1, type := 0, pos := "outright.go:109", after := #[{ on := 57, ground := Ground.data }, { on := 53, ground := Ground.guard }], guard := some (53, true) }, { dst := some 173, op := Op.load 30 (Operand.tmp 172), type := 30, pos := "outright.go:109", after := #[{ on := 58, ground := Ground.data }, { on := 53, ground := Ground.guard }], guard := some (53, true) }, { dst := some 174, op := Op.move (Operand.tmp 12), type := 22, pos := "outright.go:109", after := #[{ on := 53, ground := Ground.guard }], guard := some (53, true) }, { dst := some 175, op := Op.move (Operand.tmp 13), type := 3, pos := "outright.go:109", after := #[{ on := 53, ground := Ground.guard }], guard := some (53, true) }, { dst := some 176, op := Op.indexAddr 22 (Operand.tmp 174) (Operand.tmp 175), type := 0, pos := "outright.go:109", after := #[{ on := 60, ground := Ground.data }, { on := 61, ground := Ground.data }, { on := 53, ground := Ground.guard }], guard := some (53, true) }, { dst := some 177, op := Op.fieldAddr 32 (Operand.tmp 176) 1, type := 0, pos := "outright.go:109", after := #[{ on := 62, ground := Ground.data }, { on := 53, ground := Ground.guard }], guard := some (53, true) }, { dst := some 178, op := Op.load 30 (Operand.tmp 177), type := 30, pos := "outright.go:109", after := #[{ on := 63, ground := Ground.data }, { on := 53, ground := Ground.guard }], guard := some (53, true) }, { dst := some 179, op := Op.binOp BinOp.geq 30 (Operand.tmp 173) (Operand.tmp 178) 30, type := 4, pos := "outright.go:109", after := #[{ on := 59, ground := Ground.data }, { on := 64, ground := Ground.data }, { on := 53, ground := Ground.guard }], guard := some (53, true) }, { dst := some 180, op := Op.pick (Operand.tmp 167) (Operand.tmp 179) (Operand.const (Value.bool false)), type := 4, pos := "outright.go:109", after := #[{ on := 53, ground := Ground.data }, { on := 65, ground := Ground.data }, { on := 40, ground := Ground.guard }], guard := some (40, false) }, { dst := some 181, op := Op.pick (Operand.tmp 154) (Operand.const (Value.bool true)) (Operand.tmp 180), type := 4, pos := "outright.go:109", after := #[{ on := 40, ground := Ground.data }, { on := 66, ground := Ground.data }, { on := 26, ground := Ground.guard }], guard := some (26, true) }, { dst := some 182, op := Op.pick (Operand.tmp 140) (Operand.tmp 181) (Operand.const (Value.bool false)), type := 4, pos := "outright.go:109", after := #[{ on := 26, ground := Ground.data }, { on := 67, ground := Ground.data }, { on := 23, ground := Ground.guard }], guard := some (23, false) }, { dst := some 183, op := Op.pick (Operand.tmp 137) (Operand.const (Value.bool true)) (Operand.tmp 182), type := 4, pos := "outright.go:109", after := #[{ on := 23, ground := Ground.data }, { on := 68, ground := Ground.data }], guard := none }] (by kernel_rfl) ?_
                  refine wp_region_held_drew (S := fun w' => Below Y5.heap.size Y5 w') (by kernel_rfl) (below_drewN (Below.refl _ _) 1) (fun hHeld => ?_)
                  refine wpAnyH_take (i := 0) (oi := { dst := some 114, op := Op.move (Operand.tmp 15), type := 4, pos := "outright.go:109", after := #[], guard := none }) (v := ?_) rfl (by kernel_rfl) (by kernel_rfl) (by kernel_rfl) (fun _ _ _ h => h) (Or.inl ⟨by rfl, ?_⟩) hHeld ?_
                  rotate_left
                  · intro w hSw
                    clear hSw
                    go_simp
                    try with_reducible rfl
                  try simp only [Act.put, List.setIfInBounds_toArray, List.set_cons_zero, List.set_cons_succ]
                  refine wpAnyH_take (i := 1) (oi := { dst := some 115, op := Op.unOp UnOp.not 4 (Operand.tmp 114), type := 4, pos := "outright.go:109", after := #[{ on := 0, ground := Ground.data }], guard := none }) (v := ?_) rfl (by kernel_rfl) (by kernel_rfl) (by kernel_rfl) (fun _ _ _ h => h) (Or.inl ⟨by rfl, ?_⟩) hHeld ?_
                  rotate_left
                  · intro w hSw
                    clear hSw
                    go_simp
                    try with_reducible rfl
                  try simp only [Act.put, List.setIfInBounds_toArray, List.set_cons_zero, List.set_cons_succ]
                  refine wpAnyH_take (i := 2) (oi := { dst := some 116, op := Op.move (Operand.tmp 115), type := 4, pos := "outright.go:109", after := #[{ on := 1, ground := Ground.data }], guard := none }) (v := ?_) rfl (by kernel_rfl) (by kernel_rfl) (by kernel_rfl) (fun _ _ _ h => h) (Or.inl ⟨by rfl, ?_⟩) hHeld ?_
                  rotate_left
                  · intro w hSw
                    clear hSw
                    go_simp
                    try with_reducible rfl
                  try simp only [Act.put, List.setIfInBounds_toArray, List.set_cons_zero, List.set_cons_succ]
                  refine wpAnyH_take (i := 3) (oi := { dst := some 117, op := Op.fieldAddr 47 (Operand.tmp 14) 5, type := 0, pos := "outright.go:109", after := #[{ on := 2, ground := Ground.guard }], guard := some (2, false) }) (v := ?_) rfl (by kernel_rfl) (by kernel_rfl) (by kernel_rfl) (fun _ _ _ h => h) (Or.inl ⟨by rfl, ?_⟩) hHeld ?_
                  rotate_left
                  · intro w hSw
                    clear hSw
                    go_simp
                    try with_reducible rfl
                  try simp only [Act.put, List.setIfInBounds_toArray, List.set_cons_zero, List.set_cons_succ]
                  refine wpAnyH_take (i := 4) (oi := { dst := some 118, op := Op.load 4 (Operand.tmp 117), type := 4, pos := "outright.go:109", after := #[{ on := 3, ground := Ground.data }, { on := 2, ground := Ground.guard }], guard := some (2, false) }) (v := ?_) rfl (by kernel_rfl) (by kernel_rfl) (by kernel_rfl) (fun _ _ _ h => h) (Or.inl ⟨by rfl, ?_⟩) hHeld ?_
                  rotate_left
                  · intro w hSw
                    obtain ⟨p0, p10, p28⟩ := HP3.out w hSw
                    obtain ⟨c0, c1, c2, c3, c4, c5⟩ := HROWI.out w (HBY5.out.trans (hSw.mono HBY5.out.size))
                    obtain ⟨d0, d1, d2, d3, d4, d5⟩ := HROWK.out w (HBY5.out.trans (hSw.mono HBY5.out.size))
                    go_simp
                    try with_reducible rfl
                  try simp only [Act.put, List.setIfInBounds_toArray, List.set_cons_zero, List.set_cons_succ]
                  refine wpAnyH_take (i := 5) (oi := { dst := some 119, op := Op.unOp UnOp.not 4 (Operand.tmp 118), type := 4, pos := "outright.go:109", after := #[{ on := 4, ground := Ground.data }, { on := 2, ground := Ground.guard }], guard := some (2, false) }) (v := ?_) rfl (by kernel_rfl) (by kernel_rfl) (by kernel_rfl) (fun _ _ _ h => h) (Or.inl ⟨by rfl, ?_⟩) hHeld ?_
                  rotate_left
                  · intro w hSw
                    clear hSw
                    go_simp
                    try with_reducible rfl
                  try simp only [Act.put, List.setIfInBounds_toArray, List.set_cons_zero, List.set_cons_succ]
                  refine wpAnyH_take (i := 6) (oi := { dst := some 120, op := Op.pick (Operand.tmp 116) (Operand.const (Value.bool true)) (Operand.tmp 119), type := 4, pos := "outright.go:109", after := #[{ on := 2, ground := Ground.data }, { on := 5, ground := Ground.data }], guard := none }) (v := ?_) rfl (by kernel_rfl) (by kernel_rfl) (by kernel_rfl) (fun _ _ _ h => h) (Or.inl ⟨by rfl, ?_⟩) hHeld ?_
                  rotate_left
                  · intro w hSw
                    clear hSw
                    go_simp
                    try with_reducible rfl
                  try simp only [Act.put, List.setIfInBounds_toArray, List.set_cons_zero, List.set_cons_succ]
                  refine wpAnyH_take (i := 7) (oi := { dst := some 121, op := Op.move (Operand.tmp 120), type := 4, pos := "outright.go:109", after := #[{ on := 6, ground := Ground.data }, { on := 2, ground := Ground.chain }], guard := none }) (v := ?_) rfl (by kernel_rfl) (by kernel_rfl) (by kernel_rfl) (fun _ _ _ h => h) (Or.inl ⟨by rfl, ?_⟩) hHeld ?_
                  rotate_left
                  · intro w hSw
                    clear hSw
                    go_simp
                    try with_reducible rfl
                  try simp only [Act.put, List.setIfInBounds_toArray, List.set_cons_zero, List.set_cons_succ]
                  refine wpAnyH_take (i := 8) (oi := { dst := some 122, op := Op.fieldAddr 47 (Operand.tmp 14) 3, type := 0, pos := "outright.go:109", after := #[{ on := 7, ground := Ground.guard }], guard := some (7, false) }) (v := ?_) rfl (by kernel_rfl) (by kernel_rfl) (by kernel_rfl) (fun _ _ _ h => h) (Or.inl ⟨by rfl, ?_⟩) hHeld ?_
                  rotate_left
                  · intro w hSw
                    clear hSw
                    go_simp
                    try with_reducible rfl
                  try simp only [Act.put, List.setIfInBounds_toArray, List.set_cons_zero, List.set_cons_succ]
                  refine wpAnyH_take (i := 9) (oi := { dst := some 123, op := Op.fieldAddr 41 (Operand.tmp 122) 4, type := 0, pos := "outright.go:109", after := #[{ on := 8, ground := Ground.data }, { on := 7, ground := Ground.guard }], guard := some (7, false) }) (v := ?_) rfl (by kernel_rfl) (by kernel_rfl) (by kernel_rfl) (fun _ _ _ h => h) (Or.inl ⟨by rfl, ?_⟩) hHeld ?_
                  rotate_left
                  · intro w hSw
                    clear hSw
                    go_simp
                    try with_reducible rfl
                  try simp only [Act.put, List.setIfInBounds_toArray, List.set_cons_zero, List.set_cons_succ]
                  refine wpAnyH_take (i := 10) (oi := { dst := some 124, op := Op.load 30 (Operand.tmp 123), type := 30, pos := "outright.go:109", after := #[{ on := 9, ground := Ground.data }, { on := 7, ground := Ground.guard }], guard := some (7, false) }) (v := ?_) rfl (by kernel_rfl) (by kernel_rfl) (by kernel_rfl) (fun _ _ _ h => h) (Or.inl ⟨by rfl, ?_⟩) hHeld ?_
                  rotate_left
                  · intro w hSw
                    obtain ⟨p0, p10, p28⟩ := HP3.out w hSw
                    obtain ⟨c0, c1, c2, c3, c4, c5⟩ := HROWI.out w (HBY5.out.trans (hSw.mono HBY5.out.size))
                    obtain ⟨d0, d1, d2, d3, d4, d5⟩ := HROWK.out w (HBY5.out.trans (hSw.mono HBY5.out.size))
                    go_simp
                    try with_reducible rfl
                  try simp only [Act.put, List.setIfInBounds_toArray, List.set_cons_zero, List.set_cons_succ]
                  refine wpAnyH_take (i := 11) (oi := { dst := some 125, op := Op.binOp BinOp.neq 30 (Operand.tmp 124) (Operand.const (Value.int IntKind.u32 1)) 30, type := 4, pos := "outright.go:109", after := #[{ on := 10, ground := Ground.data }, { on := 7, ground := Ground.guard }], guard := some (7, false) }) (v := ?_) rfl (by kernel_rfl) (by kernel_rfl) (by kernel_rfl) (fun _ _ _ h => h) (Or.inl ⟨by rfl, ?_⟩) hHeld ?_
                  rotate_left
                  · intro w hSw
                    clear hSw
                    go_simp
                    try with_reducible rfl
                  try simp only [Act.put, List.setIfInBounds_toArray, List.set_cons_zero, List.set_cons_succ]
                  refine wpAnyH_take (i := 12) (oi := { dst := some 126, op := Op.pick (Operand.tmp 121) (Operand.const (Value.bool true)) (Operand.tmp 125), type := 4, pos := "outright.go:109", after := #[{ on := 7, ground := Ground.data }, { on := 11, ground := Ground.data }], guard := none }) (v := ?_) rfl (by kernel_rfl) (by kernel_rfl) (by kernel_rfl) (fun _ _ _ h => h) (Or.inl ⟨by rfl, ?_⟩) hHeld ?_
                  rotate_left
                  · intro w hSw
                    clear hSw
                    go_simp
                    try with_reducible rfl
                  try simp only [Act.put, List.setIfInBounds_toArray, List.set_cons_zero, List.set_cons_succ]
                  refine wpAnyH_take (i := 13) (oi := { dst := some 127, op := Op.move (Operand.tmp 126), type := 4, pos := "outright.go:109", after := #[{ on := 12, ground := Ground.data }, { on := 7, ground := Ground.chain }], guard := none }) (v := ?_) rfl (by kernel_rfl) (by kernel_rfl) (by kernel_rfl) (fun _ _ _ h => h) (Or.inl ⟨by rfl, ?_⟩) hHeld ?_
                  rotate_left
                  · intro w hSw
                    clear hSw
                    go_simp
                    try with_reducible rfl
                  try simp only [Act.put, List.setIfInBounds_toArray, List.set_cons_zero, List.set_cons_succ]
                  refine wpAnyH_take (i := 14) (oi := { dst := some 128, op := Op.move (Operand.tmp 17), type := 4, pos := "outright.go:109", after := #[{ on := 13, ground := Ground.guard }], guard := some (13, false) }) (v := ?_) rfl (by kernel_rfl) (by kernel_rfl) (by kernel_rfl) (fun _ _ _ h => h) (Or.inl ⟨by rfl, ?_⟩) hHeld ?_
                  rotate_left
                  · intro w hSw
                    clear hSw
                    go_simp
                    try with_reducible rfl
                  try simp only [Act.put, List.setIfInBounds_toArray, List.set_cons_zero, List.set_cons_succ]
                  refine wpAnyH_take (i := 15) (oi := { dst := some 129, op := Op.pick (Operand.tmp 127) (Operand.const (Value.bool true)) (Operand.tmp 128), type := 4, pos := "outright.go:109", after := #[{ on := 13, ground := Ground.data }, { on := 14, ground := Ground.data }], guard := none }) (v := ?_) rfl (by kernel_rfl) (by kernel_rfl) (by kernel_rfl) (fun _ _ _ h => h) (Or.inl ⟨by rfl, ?_⟩) hHeld ?_
                  rotate_left
                  · intro w hSw
                    clear hSw
                    go_simp
                    try with_reducible rfl
                  try simp only [Act.put, List.setIfInBounds_toArray, List.set_cons_zero, List.set_cons_succ]
                  refine wpAnyH_take (i := 16) (oi := { dst := some 130, op := Op.move (Operand.tmp 129), type := 4, pos := "outright.go:109", after := #[{ on := 15, ground := Ground.data }, { on := 13, ground := Ground.chain }], guard := none }) (v := ?_) rfl (by kernel_rfl) (by kernel_rfl) (by kernel_rfl) (fun _ _ _ h => h) (Or.inl ⟨by rfl, ?_⟩) hHeld ?_
                  rotate_left
                  · intro w hSw
                    clear hSw
                    go_simp
                    try with_reducible rfl
                  try simp only [Act.put, List.setIfInBounds_toArray, List.set_cons_zero, List.set_cons_succ]
                  refine wpAnyH_take (i := 17) (oi := { dst := some 131, op := Op.fieldAddr 47 (Operand.tmp 14) 0, type := 0, pos := "outright.go:109", after := #[{ on := 16, ground := Ground.guard }], guard := some (16, false) }) (v := ?_) rfl (by kernel_rfl) (by kernel_rfl) (by kernel_rfl) (fun _ _ _ h => h) (Or.inl ⟨by rfl, ?_⟩) hHeld ?_
                  rotate_left
                  · intro w hSw
                    clear hSw
                    go_simp
                    try with_reducible rfl
                  try simp only [Act.put, List.setIfInBounds_toArray, List.set_cons_zero, List.set_cons_succ]
                  refine wpAnyH_take (i := 18) (oi := { dst := some 132, op := Op.fieldAddr 29 (Operand.tmp 131) 0, type := 0, pos := "outright.go:109", after := #[{ on := 17, ground := Ground.data }, { on := 16, ground := Ground.guard }], guard := some (16, false) }) (v := ?_) rfl (by kernel_rfl) (by kernel_rfl) (by kernel_rfl) (fun _ _ _ h => h) (Or.inl ⟨by rfl, ?_⟩) hHeld ?_
                  rotate_left
                  · intro w hSw
                    clear hSw
                    go_simp
                    try with_reducible rfl
                  try simp only [Act.put, List.setIfInBounds_toArray, List.set_cons_zero, List.set_cons_succ]
                  refine wpAnyH_take (i := 19) (oi := { dst := some 133, op := Op.load 3 (Operand.tmp 132), type := 3, pos := "outright.go:109", after := #[{ on := 18, ground := Ground.data }, { on := 16, ground := Ground.guard }], guard := some (16, false) }) (v := ?_) rfl (by kernel_rfl) (by kernel_rfl) (by kernel_rfl) (fun _ _ _ h => h) (Or.inl ⟨by rfl, ?_⟩) hHeld ?_
                  rotate_left
                  · intro w hSw
                    obtain ⟨p0, p10, p28⟩ := HP3.out w hSw
                    obtain ⟨c0, c1, c2, c3, c4, c5⟩ := HROWI.out w (HBY5.out.trans (hSw.mono HBY5.out.size))
                    obtain ⟨d0, d1, d2, d3, d4, d5⟩ := HROWK.out w (HBY5.out.trans (hSw.mono HBY5.out.size))
                    go_simp
                    try with_reducible rfl
                  try simp only [Act.put, List.setIfInBounds_toArray, List.set_cons_zero, List.set_cons_succ]
                  refine wpAnyH_take (i := 20) (oi := { dst := some 134, op := Op.move (Operand.tmp 2), type := 3, pos := "outright.go:109", after := #[{ on := 16, ground := Ground.guard }], guard := some (16, false) }) (v := ?_) rfl (by kernel_rfl) (by kernel_rfl) (by kernel_rfl) (fun _ _ _ h => h) (Or.inl ⟨by rfl, ?_⟩) hHeld ?_
                  rotate_left
                  · intro w hSw
                    clear hSw
                    go_simp
                    try with_reducible rfl
                  try simp only [Act.put, List.setIfInBounds_toArray, List.set_cons_zero, List.set_cons_succ]
                  refine wpAnyH_take (i := 21) (oi := { dst := some 135, op := Op.binOp BinOp.neq 3 (Operand.tmp 133) (Operand.tmp 134) 3, type := 4, pos := "outright.go:109", after := #[{ on := 19, ground := Ground.data }, { on := 20, ground := Ground.data }, { on := 16, ground := Ground.guard }], guard := some (16, false) }) (v := ?_) rfl (by kernel_rfl) (by kernel_rfl) (by kernel_rfl) (fun _ _ _ h => h) (Or.inl ⟨by rfl, ?_⟩) hHeld ?_
                  rotate_left
                  · intro w hSw
                    clear hSw
                    go_simp
                    try with_reducible rfl
                  try simp only [Act.put, List.setIfInBounds_toArray, List.set_cons_zero, List.set_cons_succ]
                  refine wpAnyH_take (i := 22) (oi := { dst := some 136, op := Op.pick (Operand.tmp 130) (Operand.const (Value.bool true)) (Operand.tmp 135), type := 4, pos := "outright.go:109", after := #[{ on := 16, ground := Ground.data }, { on := 21, ground := Ground.data }], guard := none }) (v := ?_) rfl (by kernel_rfl) (by kernel_rfl) (by kernel_rfl) (fun _ _ _ h => h) (Or.inl ⟨by rfl, ?_⟩) hHeld ?_
                  rotate_left
                  · intro w hSw
                    clear hSw
                    go_simp
                    try with_reducible rfl
                  try simp only [Act.put, List.setIfInBounds_toArray, List.set_cons_zero, List.set_cons_succ]
                  refine wpAnyH_take (i := 23) (oi := { dst := some 137, op := Op.move (Operand.tmp 136), type := 4, pos := "outright.go:109", after := #[{ on := 22, ground := Ground.data }, { on := 16, ground := Ground.chain }], guard := none }) (v := ?_) rfl (by kernel_rfl) (by kernel_rfl) (by kernel_rfl) (fun _ _ _ h => h) (Or.inl ⟨by rfl, ?_⟩) hHeld ?_
                  rotate_left
                  · intro w hSw
                    clear hSw
                    go_simp
                    try with_reducible rfl
                  try simp only [Act.put, List.setIfInBounds_toArray, List.set_cons_zero, List.set_cons_succ]
                  refine wpAnyH_take (i := 24) (oi := { dst := some 138, op := Op.move (Operand.tmp 13), type := 3, pos := "outright.go:109", after := #[{ on := 23, ground := Ground.guard }], guard := some (23, false) }) (v := ?_) rfl (by kernel_rfl) (by kernel_rfl) (by kernel_rfl) (fun _ _ _ h => h) (Or.inl ⟨by rfl, ?_⟩) hHeld ?_
                  rotate_left
                  · intro w hSw
                    clear hSw
                    go_simp
                    try with_reducible rfl
                  try simp only [Act.put, List.setIfInBounds_toArray, List.set_cons_zero, List.set_cons_succ]
                  refine wpAnyH_take (i := 25) (oi := { dst := some 139, op := Op.binOp BinOp.gtr 3 (Operand.tmp 138) (Operand.const (Value.int IntKind.i64 0)) 3, type := 4, pos := "outright.go:109", after := #[{ on := 24, ground := Ground.data }, { on := 23, ground := Ground.guard }], guard := some (23, false) }) (v := ?_) rfl (by kernel_rfl) (by kernel_rfl) (by kernel_rfl) (fun _ _ _ h => h) (Or.inl ⟨by rfl, ?_⟩) hHeld ?_
                  rotate_left
                  · intro w hSw
                    clear hSw
                    go_simp
                    try with_reducible rfl
                  try simp only [Act.put, List.setIfInBounds_toArray, List.set_cons_zero, List.set_cons_succ]
                  refine wpAnyH_take (i := 26) (oi := { dst := some 140, op := Op.move (Operand.tmp 139), type := 4, pos := "outright.go:109", after := #[{ on := 25, ground := Ground.data }, { on := 23, ground := Ground.chain }, { on := 23, ground := Ground.guard }], guard := some (23, false) }) (v := ?_) rfl (by kernel_rfl) (by kernel_rfl) (by kernel_rfl) (fun _ _ _ h => h) (Or.inl ⟨by rfl, ?_⟩) hHeld ?_
                  rotate_left
                  · intro w hSw
                    clear hSw
                    go_simp
                    try with_reducible rfl
                  try simp only [Act.put, List.setIfInBounds_toArray, List.set_cons_zero, List.set_cons_succ]
                  refine wpAnyH_take (i := 27) (oi := { dst := some 141, op := Op.move (Operand.tmp 12), type := 22, pos := "outright.go:109", after := #[{ on := 26, ground := Ground.guard }], guard := some (26, true) }) (v := ?_) rfl (by kernel_rfl) (by kernel_rfl) (by kernel_rfl) (fun _ _ _ h => h) (Or.inl ⟨by rfl, ?_⟩) hHeld ?_
                  rotate_left
                  · intro w hSw
                    clear hSw
                    go_simp
                    try with_reducible rfl
                  try simp only [Act.put, List.setIfInBounds_toArray, List.set_cons_zero, List.set_cons_succ]
                  refine wpAnyH_take (i := 28) (oi := { dst := some 142, op := Op.move (Operand.tmp 13), type := 3, pos := "outright.go:109", after := #[{ on := 26, ground := Ground.guard }], guard := some (26, true) }) (v := ?_) rfl (by kernel_rfl) (by kernel_rfl) (by kernel_rfl) (fun _ _ _ h => h) (Or.inl ⟨by rfl, ?_⟩) hHeld ?_
                  rotate_left
                  · intro w hSw
                    clear hSw
                    go_simp
                    try with_reducible rfl
                  try simp only [Act.put, List.setIfInBounds_toArray, List.set_cons_zero, List.set_cons_succ]
                  refine wpAnyH_take (i := 29) (oi := { dst := some 143, op := Op.binOp BinOp.sub 3 (Operand.tmp 142) (Operand.const (Value.int IntKind.i64 1)) 3, type := 3, pos := "outright.go:109", after := #[{ on := 28, ground := Ground.data }, { on := 26, ground := Ground.guard }], guard := some (26, true) }) (v := ?_) rfl (by kernel_rfl) (by kernel_rfl) (by kernel_rfl) (fun _ _ _ h => h) (Or.inl ⟨by rfl, ?_⟩) hHeld ?_
                  rotate_left
                  · intro w hSw
                    clear hSw
                    go_simp
                    try with_reducible rfl
                  try simp only [Act.put, List.setIfInBounds_toArray, List.set_cons_zero, List.set_cons_succ]
                  refine wpAnyH_take (i := 30) (oi := { dst := some 144, op := Op.indexAddr 22 (Operand.tmp 141) (Operand.tmp 143), type := 0, pos := "outright.go:109", after := #[{ on := 27, ground := Ground.data }, { on := 29, ground := Ground.data }, { on := 26, ground := Ground.guard }], guard := some (26, true) }) (v := ?_) rfl (by kernel_rfl) (by kernel_rfl) (by kernel_rfl) (fun _ _ _ h => h) (Or.inl ⟨by rfl, ?_⟩) hHeld ?_
                  rotate_left
                  · intro w hSw
                    clear hSw
                    go_simp
                    try with_reducible rfl
                  try simp only [Act.put, List.setIfInBounds_toArray, List.set_cons_zero, List.set_cons_succ]
                  refine wpAnyH_take (i := 31) (oi := { dst := some 145, op := Op.fieldAddr 32 (Operand.tmp 144) 0, type := 0, pos := "outright.go:109", after := #[{ on := 30, ground := Ground.data }, { on := 26, ground := Ground.guard }], guard := some (26, true) }) (v := ?_) rfl (by kernel_rfl) (by kernel_rfl) (by kernel_rfl) (fun _ _ _ h => h) (Or.inl ⟨by rfl, ?_⟩) hHeld ?_
                  rotate_left
                  · intro w hSw
                    clear hSw
                    go_simp
                    try with_reducible rfl
                  try simp only [Act.put, List.setIfInBounds_toArray, List.set_cons_zero, List.set_cons_succ]
                  refine wpAnyH_take (i := 32) (oi := { dst := some 146, op := Op.load 29 (Operand.tmp 145), type := 29, pos := "outright.go:109", after := #[{ on := 31, ground := Ground.data }, { on := 26, ground := Ground.guard }], guard := some (26, true) }) (v := ?_) rfl (by kernel_rfl) (by kernel_rfl) (by kernel_rfl) (fun _ _ _ h => h) (Or.inl ⟨by rfl, ?_⟩) hHeld ?_
                  rotate_left
                  · intro w hSw
                    obtain ⟨p0, p10, p28⟩ := HP3.out w hSw
                    obtain ⟨c0, c1, c2, c3, c4, c5⟩ := HROWI.out w (HBY5.out.trans (hSw.mono HBY5.out.size))
                    obtain ⟨d0, d1, d2, d3, d4, d5⟩ := HROWK.out w (HBY5.out.trans (hSw.mono HBY5.out.size))
                    go_simp
                    try with_reducible rfl
                  try simp only [Act.put, List.setIfInBounds_toArray, List.set_cons_zero, List.set_cons_succ]
                  refine wpAnyH_take (i := 33) (oi := { dst := some 147, op := Op.move (Operand.tmp 12), type := 22, pos := "outright.go:109", after := #[{ on := 26, ground := Ground.guard }], guard := some (26, true) }) (v := ?_) rfl (by kernel_rfl) (by kernel_rfl) (by kernel_rfl) (fun _ _ _ h => h) (Or.inl ⟨by rfl, ?_⟩) hHeld ?_
                  rotate_left
                  · intro w hSw
                    clear hSw
                    go_simp
                    try with_reducible rfl
                  try simp only [Act.put, List.setIfInBounds_toArray, List.set_cons_zero, List.set_cons_succ]
                  refine wpAnyH_take (i := 34) (oi := { dst := some 148, op := Op.move (Operand.tmp 13), type := 3, pos := "outright.go:109", after := #[{ on := 26, ground := Ground.guard }], guard := some (26, true) }) (v := ?_) rfl (by kernel_rfl) (by kernel_rfl) (by kernel_rfl) (fun _ _ _ h => h) (Or.inl ⟨by rfl, ?_⟩) hHeld ?_
                  rotate_left
                  · intro w hSw
                    clear hSw
                    go_simp
                    try with_reducible rfl
                  try simp only [Act.put, List.setIfInBounds_toArray, List.set_cons_zero, List.set_cons_succ]
                  refine wpAnyH_take (i := 35) (oi := { dst := some 149, op := Op.indexAddr 22 (Operand.tmp 147) (Operand.tmp 148), type := 0, pos := "outright.go:109", after := #[{ on := 33, ground := Ground.data }, { on := 34, ground := Ground.data }, { on := 26, ground := Ground.guard }], guard := some (26, true) }) (v := ?_) rfl (by kernel_rfl) (by kernel_rfl) (by kernel_rfl) (fun _ _ _ h => h) (Or.inl ⟨by rfl, ?_⟩) hHeld ?_
                  rotate_left
                  · intro w hSw
                    clear hSw
                    go_simp
                    try with_reducible rfl
                  try simp only [Act.put, List.setIfInBounds_toArray, List.set_cons_zero, List.set_cons_succ]
                  refine wpAnyH_take (i := 36) (oi := { dst := some 150, op := Op.fieldAddr 32 (Operand.tmp 149) 0, type := 0, pos := "outright.go:109", after := #[{ on := 35, ground := Ground.data }, { on := 26, ground := Ground.guard }], guard := some (26, true) }) (v := ?_) rfl (by kernel_rfl) (by kernel_rfl) (by kernel_rfl) (fun _ _ _ h => h) (Or.inl ⟨by rfl, ?_⟩) hHeld ?_
                  rotate_left
                  · intro w hSw
                    clear hSw
                    go_simp
                    try with_reducible rfl
                  try simp only [Act.put, List.setIfInBounds_toArray, List.set_cons_zero, List.set_cons_succ]
                  refine wpAnyH_take (i := 37) (oi := { dst := some 151, op := Op.load 29 (Operand.tmp 150), type := 29, pos := "outright.go:109", after := #[{ on := 36, ground := Ground.data }, { on := 26, ground := Ground.guard }], guard := some (26, true) }) (v := ?_) rfl (by kernel_rfl) (by kernel_rfl) (by kernel_rfl) (fun _ _ _ h => h) (Or.inl ⟨by rfl, ?_⟩) hHeld ?_
                  rotate_left
                  · intro w hSw
                    obtain ⟨p0, p10, p28⟩ := HP3.out w hSw
                    obtain ⟨c0, c1, c2, c3, c4, c5⟩ := HROWI.out w (HBY5.out.trans (hSw.mono HBY5.out.size))
                    obtain ⟨d0, d1, d2, d3, d4, d5⟩ := HROWK.out w (HBY5.out.trans (hSw.mono HBY5.out.size))
                    go_simp
                    try with_reducible rfl
                  try simp only [Act.put, List.setIfInBounds_toArray, List.set_cons_zero, List.set_cons_succ]
                  refine wpAnyH_ready (rs := [38]) (by kernel_rfl) (by simp) ?_
                  refine AllReadyH.cons (o := { dst := some 152, op := Op.call { callee := Callee.value (Operand.func 19), args := #[Operand.tmp 146, Operand.tmp 151], argTypes := #[29, 29] }, type := 3, pos := "outright.go:109", after := #[{ on := 32, ground := Ground.data }, { on := 37, ground := Ground.data }, { on := 26, ground := Ground.chain }, { on := 26, ground := Ground.guard }], guard := some (26, true) }) rfl (fun K hK => ?_) AllReadyH.nil
                  go_simp
                  refine (HCMP.out _).mono ?_
                  rintro e w9 ⟨rfl, hw9⟩
                  refine hK.out _ _ (hHeld.trans (hw9.mono hHeld.size)) (fun hHeld => ?_)
                  clear hK K
                  try simp only [Act.put, List.setIfInBounds_toArray, List.set_cons_zero, List.set_cons_succ]
                  refine wpAnyH_take (i := 39) (oi := { dst := some 153, op := Op.binOp BinOp.gtr 3 (Operand.tmp 152) (Operand.const (Value.int IntKind.i64 0)) 3, type := 4, pos := "outright.go:109", after := #[{ on := 38, ground := Ground.data }, { on := 26, ground := Ground.guard }], guard := some (26, true) }) (v := ?_) rfl (by kernel_rfl) (by kernel_rfl) (by kernel_rfl) (fun _ _ _ h => h) (Or.inl ⟨by rfl, ?_⟩) hHeld ?_
                  rotate_left
                  · intro w hSw
                    clear hSw
                    go_simp
                    try with_reducible rfl
                  try simp only [Act.put, List.setIfInBounds_toArray, List.set_cons_zero, List.set_cons_succ]
                  refine wpAnyH_take (i := 40) (oi := { dst := some 154, op := Op.move (Operand.tmp 153), type := 4, pos := "outright.go:109", after := #[{ on := 39, ground := Ground.data }, { on := 38, ground := Ground.chain }, { on := 26, ground := Ground.guard }], guard := some (26, true) }) (v := ?_) rfl (by kernel_rfl) (by kernel_rfl) (by kernel_rfl) (fun _ _ _ h => h) (Or.inl ⟨by rfl, ?_⟩) hHeld ?_
                  rotate_left
                  · intro w hSw
                    clear hSw
                    go_simp
                    try with_reducible rfl
                  try simp only [Act.put, List.setIfInBounds_toArray, List.set_cons_zero, List.set_cons_succ]
                  refine wpAnyH_take (i := 41) (oi := { dst := some 155, op := Op.move (Operand.tmp 12), type := 22, pos := "outright.go:109", after := #[{ on := 40, ground := Ground.guard }], guard := some (40, false) }) (v := ?_) rfl (by kernel_rfl) (by kernel_rfl) (by kernel_rfl) (fun _ _ _ h => h) (Or.inl ⟨by rfl, ?_⟩) hHeld ?_
                  rotate_left
                  · intro w hSw
                    clear hSw
                    go_simp
                    try with_reducible rfl
                  try simp only [Act.put, List.setIfInBounds_toArray, List.set_cons_zero, List.set_cons_succ]
                  refine wpAnyH_take (i := 42) (oi := { dst := some 156, op := Op.move (Operand.tmp 13), type := 3, pos := "outright.go:109", after := #[{ on := 40, ground := Ground.guard }], guard := some (40, false) }) (v := ?_) rfl (by kernel_rfl) (by kernel_rfl) (by kernel_rfl) (fun _ _ _ h => h) (Or.inl ⟨by rfl, ?_⟩) hHeld ?_
                  rotate_left
                  · intro w hSw
                    clear hSw
                    go_simp
                    try with_reducible rfl
                  try simp only [Act.put, List.setIfInBounds_toArray, List.set_cons_zero, List.set_cons_succ]
                  refine wpAnyH_take (i := 43) (oi := { dst := some 157, op := Op.binOp BinOp.sub 3 (Operand.tmp 156) (Operand.const (Value.int IntKind.i64 1)) 3, type := 3, pos := "outright.go:109", after := #[{ on := 42, ground := Ground.data }, { on := 40, ground := Ground.guard }], guard := some (40, false) }) (v := ?_) rfl (by kernel_rfl) (by kernel_rfl) (by kernel_rfl) (fun _ _ _ h => h) (Or.inl ⟨by rfl, ?_⟩) hHeld ?_
                  rotate_left
                  · intro w hSw
                    clear hSw
                    go_simp
                    try with_reducible rfl
                  try simp only [Act.put, List.setIfInBounds_toArray, List.set_cons_zero, List.set_cons_succ]
                  refine wpAnyH_take (i := 44) (oi := { dst := some 158, op := Op.indexAddr 22 (Operand.tmp 155) (Operand.tmp 157), type := 0, pos := "outright.go:109", after := #[{ on := 41, ground := Ground.data }, { on := 43, ground := Ground.data }, { on := 40, ground := Ground.guard }], guard := some (40, false) }) (v := ?_) rfl (by kernel_rfl) (by kernel_rfl) (by kernel_rfl) (fun _ _ _ h => h) (Or.inl ⟨by rfl, ?_⟩) hHeld ?_
                  rotate_left
                  · intro w hSw
                    clear hSw
                    go_simp
                    try with_reducible rfl
                  try simp only [Act.put, List.setIfInBounds_toArray, List.set_cons_zero, List.set_cons_succ]
                  refine wpAnyH_take (i := 45) (oi := { dst := some 159, op := Op.fieldAddr 32 (Operand.tmp 158) 0, type := 0, pos := "outright.go:109", after := #[{ on := 44, ground := Ground.data }, { on := 40, ground := Ground.guard }], guard := some (40, false) }) (v := ?_) rfl (by kernel_rfl) (by kernel_rfl) (by kernel_rfl) (fun _ _ _ h => h) (Or.inl ⟨by rfl, ?_⟩) hHeld ?_
                  rotate_left
                  · intro w hSw
                    clear hSw
                    go_simp
                    try with_reducible rfl
                  try simp only [Act.put, List.setIfInBounds_toArray, List.set_cons_zero, List.set_cons_succ]
                  refine wpAnyH_take (i := 46) (oi := { dst := some 160, op := Op.load 29 (Operand.tmp 159), type := 29, pos := "outright.go:109", after := #[{ on := 45, ground := Ground.data }, { on := 40, ground := Ground.guard }], guard := some (40, false) }) (v := ?_) rfl (by kernel_rfl) (by kernel_rfl) (by kernel_rfl) (fun _ _ _ h => h) (Or.inl ⟨by rfl, ?_⟩) hHeld ?_
                  rotate_left
                  · intro w hSw
                    obtain ⟨p0, p10, p28⟩ := HP3.out w hSw
                    obtain ⟨c0, c1, c2, c3, c4, c5⟩ := HROWI.out w (HBY5.out.trans (hSw.mono HBY5.out.size))
                    obtain ⟨d0, d1, d2, d3, d4, d5⟩ := HROWK.out w (HBY5.out.trans (hSw.mono HBY5.out.size))
                    go_simp
                    try with_reducible rfl
                  try simp only [Act.put, List.setIfInBounds_toArray, List.set_cons_zero, List.set_cons_succ]
                  refine wpAnyH_take (i := 47) (oi := { dst := some 161, op := Op.move (Operand.tmp 12), type := 22, pos := "outright.go:109", after := #[{ on := 40, ground := Ground.guard }], guard := some (40, false) }) (v := ?_) rfl (by kernel_rfl) (by kernel_rfl) (by kernel_rfl) (fun _ _ _ h => h) (Or.inl ⟨by rfl, ?_⟩) hHeld ?_
                  rotate_left
                  · intro w hSw
                    clear hSw
                    go_simp
                    try with_reducible rfl
                  try simp only [Act.put, List.setIfInBounds_toArray, List.set_cons_zero, List.set_cons_succ]
                  refine wpAnyH_take (i := 48) (oi := { dst := some 162, op := Op.move (Operand.tmp 13), type := 3, pos := "outright.go:109", after := #[{ on := 40, ground := Ground.guard }], guard := some (40, false) }) (v := ?_) rfl (by kernel_rfl) (by kernel_rfl) (by kernel_rfl) (fun _ _ _ h => h) (Or.inl ⟨by rfl, ?_⟩) hHeld ?_
                  rotate_left
                  · intro w hSw
                    clear hSw
                    go_simp
                    try with_reducible rfl
                  try simp only [Act.put, List.setIfInBounds_toArray, List.set_cons_zero, List.set_cons_succ]
                  refine wpAnyH_take (i := 49) (oi := { dst := some 163, op := Op.indexAddr 22 (Operand.tmp 161) (Operand.tmp 162), type := 0, pos := "outright.go:109", after := #[{ on := 47, ground := Ground.data }, { on := 48, ground := Ground.data }, { on := 40, ground := Ground.guard }], guard := some (40, false) }) (v := ?_) rfl (by kernel_rfl) (by kernel_rfl) (by kernel_rfl) (fun _ _ _ h => h) (Or.inl ⟨by rfl, ?_⟩) hHeld ?_
                  rotate_left
                  · intro w hSw
                    clear hSw
                    go_simp
                    try with_reducible rfl
                  try simp only [Act.put, List.setIfInBounds_toArray, List.set_cons_zero, List.set_cons_succ]
                  refine wpAnyH_take (i := 50) (oi := { dst := some 164, op := Op.fieldAddr 32 (Operand.tmp 163) 0, type := 0, pos := "outright.go:109", after := #[{ on := 49, ground := Ground.data }, { on := 40, ground := Ground.guard }], guard := some (40, false) }) (v := ?_) rfl (by kernel_rfl) (by kernel_rfl) (by kernel_rfl) (fun _ _ _ h => h) (Or.inl ⟨by rfl, ?_⟩) hHeld ?_
                  rotate_left
                  · intro w hSw
                    clear hSw
                    go_simp
                    try with_reducible rfl
                  try simp only [Act.put, List.setIfInBounds_toArray, List.set_cons_zero, List.set_cons_succ]
                  refine wpAnyH_take (i := 51) (oi := { dst := some 165, op := Op.load 29 (Operand.tmp 164), type := 29, pos := "outright.go:109", after := #[{ on := 50, ground := Ground.data }, { on := 40, ground := Ground.guard }], guard := some (40, false) }) (v := ?_) rfl (by kernel_rfl) (by kernel_rfl) (by kernel_rfl) (fun _ _ _ h => h) (Or.inl ⟨by rfl, ?_⟩) hHeld ?_
                  rotate_left
                  · intro w hSw
                    obtain ⟨p0, p10, p28⟩ := HP3.out w hSw
                    obtain ⟨c0, c1, c2, c3, c4, c5⟩ := HROWI.out w (HBY5.out.trans (hSw.mono HBY5.out.size))
                    obtain ⟨d0, d1, d2, d3, d4, d5⟩ := HROWK.out w (HBY5.out.trans (hSw.mono HBY5.out.size))
                    go_simp
                    try with_reducible rfl
                  try simp only [Act.put, List.setIfInBounds_toArray, List.set_cons_zero, List.set_cons_succ]
                  refine wpAnyH_take (i := 52) (oi := { dst := some 166, op := Op.binOp BinOp.eql 29 (Operand.tmp 160) (Operand.tmp 165) 29, type := 4, pos := "outright.go:109", after := #[{ on := 46, ground := Ground.data }, { on := 51, ground := Ground.data }, { on := 40, ground := Ground.guard }], guard := some (40, false) }) (v := .bool true) rfl (by kernel_rfl) (by kernel_rfl) (by kernel_rfl) (fun _ _ _ h => h) (Or.inl ⟨by rfl, ?_⟩) hHeld ?_
                  · intro w hSw
                    clear hSw
                    go_simp
                    all_goals first | exact ⟨HPF.out.1, HPF.out.2.1, by rw [HPF.out.2.2.1], HPF.out.2.2.2⟩ | (rw [HPF.out.1, HPF.out.2.1, HPF.out.2.2.1, HPF.out.2.2.2]; simp) | simp [HPF.out.1, HPF.out.2.1, HPF.out.2.2.1, HPF.out.2.2.2]
                  try simp only [Act.put, List.setIfInBounds_toArray, List.set_cons_zero, List.set_cons_succ]
                  refine wpAnyH_take (i := 53) (oi := { dst := some 167, op := Op.move (Operand.tmp 166), type := 4, pos := "outright.go:109", after := #[{ on := 52, ground := Ground.data }, { on := 40, ground := Ground.chain }, { on := 40, ground := Ground.guard }], guard := some (40, false) }) (v := ?_) rfl (by kernel_rfl) (by kernel_rfl) (by kernel_rfl) (fun _ _ _ h => h) (Or.inl ⟨by rfl, ?_⟩) hHeld ?_
                  rotate_left
                  · intro w hSw
                    clear hSw
                    go_simp
                    try with_reducible rfl
                  try simp only [Act.put, List.setIfInBounds_toArray, List.set_cons_zero, List.set_cons_succ]
                  refine wpAnyH_take (i := 54) (oi := { dst := some 168, op := Op.move (Operand.tmp 12), type := 22, pos := "outright.go:109", after := #[{ on := 53, ground := Ground.guard }], guard := some (53, true) }) (v := ?_) rfl (by kernel_rfl) (by kernel_rfl) (by kernel_rfl) (fun _ _ _ h => h) (Or.inl ⟨by rfl, ?_⟩) hHeld ?_
                  rotate_left
                  · intro w hSw
                    clear hSw
                    go_simp
                    try with_reducible rfl
                  try simp only [Act.put, List.setIfInBounds_toArray, List.set_cons_zero, List.set_cons_succ]
                  refine wpAnyH_take (i := 55) (oi := { dst := some 169, op := Op.move (Operand.tmp 13), type := 3, pos := "outright.go:109", after := #[{ on := 53, ground := Ground.guard }], guard := some (53, true) }) (v := ?_) rfl (by kernel_rfl) (by kernel_rfl) (by kernel_rfl) (fun _ _ _ h => h) (Or.inl ⟨by rfl, ?_⟩) hHeld ?_
                  rotate_left
                  · intro w hSw
                    clear hSw
                    go_simp
                    try with_reducible rfl
                  try simp only [Act.put, List.setIfInBounds_toArray, List.set_cons_zero, List.set_cons_succ]
                  refine wpAnyH_take (i := 56) (oi := { dst := some 170, op := Op.binOp BinOp.sub 3 (Operand.tmp 169) (Operand.const (Value.int IntKind.i64 1)) 3, type := 3, pos := "outright.go:109", after := #[{ on := 55, ground := Ground.data }, { on := 53, ground := Ground.guard }], guard := some (53, true) }) (v := ?_) rfl (by kernel_rfl) (by kernel_rfl) (by kernel_rfl) (fun _ _ _ h => h) (Or.inl ⟨by rfl, ?_⟩) hHeld ?_
                  rotate_left
                  · intro w hSw
                    clear hSw
                    go_simp
                    try with_reducible rfl
                  try simp only [Act.put, List.setIfInBounds_toArray, List.set_cons_zero, List.set_cons_succ]
                  refine wpAnyH_take (i := 57) (oi := { dst := some 171, op := Op.indexAddr 22 (Operand.tmp 168) (Operand.tmp 170), type := 0, pos := "outright.go:109", after := #[{ on := 54, ground := Ground.data }, { on := 56, ground := Ground.data }, { on := 53, ground := Ground.guard }], guard := some (53, true) }) (v := ?_) rfl (by kernel_rfl) (by kernel_rfl) (by kernel_rfl) (fun _ _ _ h => h) (Or.inl ⟨by rfl, ?_⟩) hHeld ?_
                  rotate_left
                  · intro w hSw
                    clear hSw
                    go_simp
                    try with_reducible rfl
                  try simp only [Act.put, List.setIfInBounds_toArray, List.set_cons_zero, List.set_cons_succ]
                  refine wpAnyH_take (i := 58) (oi := { dst := some 172, op := Op.fieldAddr 32 (Operand.tmp 171) 1, type := 0, pos := "outright.go:109", after := #[{ on := 57, ground := Ground.data }, { on := 53, ground := Ground.guard }], guard := some (53, true) }) (v := ?_) rfl (by kernel_rfl) (by kernel_rfl) (by kernel_rfl) (fun _ _ _ h => h) (Or.inl ⟨by rfl, ?_⟩) hHeld ?_
                  rotate_left
                  · intro w hSw
                    clear hSw
                    go_simp
                    try with_reducible rfl
                  try simp only [Act.put, List.setIfInBounds_toArray, List.set_cons_zero, List.set_cons_succ]
                  refine wpAnyH_take (i := 59) (oi := { dst := some 173, op := Op.load 30 (Operand.tmp 172), type := 30, pos := "outright.go:109", after := #[{ on := 58, ground := Ground.data }, { on := 53, ground := Ground.guard }], guard := some (53, true) }) (v := ?_) rfl (by kernel_rfl) (by kernel_rfl) (by kernel_rfl) (fun _ _ _ h => h) (Or.inl ⟨by rfl, ?_⟩) hHeld ?_
                  rotate_left
                  · intro w hSw
                    obtain ⟨p0, p10, p28⟩ := HP3.out w hSw
                    obtain ⟨c0, c1, c2, c3, c4, c5⟩ := HROWI.out w (HBY5.out.trans (hSw.mono HBY5.out.size))
                    obtain ⟨d0, d1, d2, d3, d4, d5⟩ := HROWK.out w (HBY5.out.trans (hSw.mono HBY5.out.size))
                    go_simp
                    try with_reducible rfl
                  try simp only [Act.put, List.setIfInBounds_toArray, List.set_cons_zero, List.set_cons_succ]
                  refine wpAnyH_take (i := 60) (oi := { dst := some 174, op := Op.move (Operand.tmp 12), type := 22, pos := "outright.go:109", after := #[{ on := 53, ground := Ground.guard }], guard := some (53, true) }) (v := ?_) rfl (by kernel_rfl) (by kernel_rfl) (by kernel_rfl) (fun _ _ _ h => h) (Or.inl ⟨by rfl, ?_⟩) hHeld ?_
                  rotate_left
                  · intro w hSw
                    clear hSw
                    go_simp
                    try with_reducible rfl
                  try simp only [Act.put, List.setIfInBounds_toArray, List.set_cons_zero, List.set_cons_succ]
                  refine wpAnyH_take (i := 61) (oi := { dst := some 175, op := Op.move (Operand.tmp 13), type := 3, pos := "outright.go:109", after := #[{ on := 53, ground := Ground.guard }], guard := some (53, true) }) (v := ?_) rfl (by kernel_rfl) (by kernel_rfl) (by kernel_rfl) (fun _ _ _ h => h) (Or.inl ⟨by rfl, ?_⟩) hHeld ?_
                  rotate_left
                  · intro w hSw
                    clear hSw
                    go_simp
                    try with_reducible rfl
                  try simp only [Act.put, List.setIfInBounds_toArray, List.set_cons_zero, List.set_cons_succ]
                  refine wpAnyH_take (i := 62) (oi := { dst := some 176, op := Op.indexAddr 22 (Operand.tmp 174) (Operand.tmp 175), type := 0, pos := "outright.go:109", after := #[{ on := 60, ground := Ground.data }, { on := 61, ground := Ground.data }, { on := 53, ground := Ground.guard }], guard := some (53, true) }) (v := ?_) rfl (by kernel_rfl) (by kernel_rfl) (by kernel_rfl) (fun _ _ _ h => h) (Or.inl ⟨by rfl, ?_⟩) hHeld ?_
                  rotate_left
                  · intro w hSw
                    clear hSw
                    go_simp
                    try with_reducible rfl
                  try simp only [Act.put, List.setIfInBounds_toArray, List.set_cons_zero, List.set_cons_succ]
                  refine wpAnyH_take (i := 63) (oi := { dst := some 177, op := Op.fieldAddr 32 (Operand.tmp 176) 1, type := 0, pos := "outright.go:109", after := #[{ on := 62, ground := Ground.data }, { on := 53, ground := Ground.guard }], guard := some (53, true) }) (v := ?_) rfl (by kernel_rfl) (by kernel_rfl) (by kernel_rfl) (fun _ _ _ h => h) (Or.inl ⟨by rfl, ?_⟩) hHeld ?_
                  rotate_left
                  · intro w hSw
                    clear hSw
                    go_simp
                    try with_reducible rfl
                  try simp only [Act.put, List.setIfInBounds_toArray, List.set_cons_zero, List.set_cons_succ]
                  refine wpAnyH_take (i := 64) (oi := { dst := some 178, op := Op.load 30 (Operand.tmp 177), type := 30, pos := "outright.go:109", after := #[{ on := 63, ground := Ground.data }, { on := 53, ground := Ground.guard }], guard := some (53, true) }) (v := ?_) rfl (by kernel_rfl) (by kernel_rfl) (by kernel_rfl) (fun _ _ _ h => h) (Or.inl ⟨by rfl, ?_⟩) hHeld ?_
                  rotate_left
                  · intro w hSw
                    obtain ⟨p0, p10, p28⟩ := HP3.out w hSw
                    obtain ⟨c0, c1, c2, c3, c4, c5⟩ := HROWI.out w (HBY5.out.trans (hSw.mono HBY5.out.size))
                    obtain ⟨d0, d1, d2, d3, d4, d5⟩ := HROWK.out w (HBY5.out.trans (hSw.mono HBY5.out.size))
                    go_simp
                    try with_reducible rfl
                  try simp only [Act.put, List.setIfInBounds_toArray, List.set_cons_zero, List.set_cons_succ]
                  refine wpAnyH_take (i := 65) (oi := { dst := some 179, op := Op.binOp BinOp.geq 30 (Operand.tmp 173) (Operand.tmp 178) 30, type := 4, pos := "outright.go:109", after := #[{ on := 59, ground := Ground.data }, { on := 64, ground := Ground.data }, { on := 53, ground := Ground.guard }], guard := some (53, true) }) (v := .bool false) rfl (by kernel_rfl) (by kernel_rfl) (by kernel_rfl) (fun _ _ _ h => h) (Or.inl ⟨by rfl, ?_⟩) hHeld ?_
                  · intro w hSw
                    clear hSw
                    go_simp
                    all_goals first | exact HID.out | (intro h; exact absurd h (by have := HID.out; omega)) | simp [HID.out]
                  try simp only [Act.put, List.setIfInBounds_toArray, List.set_cons_zero, List.set_cons_succ]
                  refine wpAnyH_take (i := 66) (oi := { dst := some 180, op := Op.pick (Operand.tmp 167) (Operand.tmp 179) (Operand.const (Value.bool false)), type := 4, pos := "outright.go:109", after := #[{ on := 53, ground := Ground.data }, { on := 65, ground := Ground.data }, { on := 40, ground := Ground.guard }], guard := some (40, false) }) (v := ?_) rfl (by kernel_rfl) (by kernel_rfl) (by kernel_rfl) (fun _ _ _ h => h) (Or.inl ⟨by rfl, ?_⟩) hHeld ?_
                  rotate_left
                  · intro w hSw
                    clear hSw
                    go_simp
                    try with_reducible rfl
                  try simp only [Act.put, List.setIfInBounds_toArray, List.set_cons_zero, List.set_cons_succ]
                  refine wpAnyH_take (i := 67) (oi := { dst := some 181, op := Op.pick (Operand.tmp 154) (Operand.const (Value.bool true)) (Operand.tmp 180), type := 4, pos := "outright.go:109", after := #[{ on := 40, ground := Ground.data }, { on := 66, ground := Ground.data }, { on := 26, ground := Ground.guard }], guard := some (26, true) }) (v := ?_) rfl (by kernel_rfl) (by kernel_rfl) (by kernel_rfl) (fun _ _ _ h => h) (Or.inl ⟨by rfl, ?_⟩) hHeld ?_
                  rotate_left
                  · intro w hSw
                    clear hSw
                    go_simp
                    try with_reducible rfl
                  try simp only [Act.put, List.setIfInBounds_toArray, List.set_cons_zero, List.set_cons_succ]
                  refine wpAnyH_take (i := 68) (oi := { dst := some 182, op := Op.pick (Operand.tmp 140) (Operand.tmp 181) (Operand.const (Value.bool false)), type := 4, pos := "outright.go:109", after := #[{ on := 26, ground := Ground.data }, { on := 67, ground := Ground.data }, { on := 23, ground := Ground.guard }], guard := some (23, false) }) (v := ?_) rfl (by kernel_rfl) (by kernel_rfl) (by kernel_rfl) (fun _ _ _ h => h) (Or.inl ⟨by rfl, ?_⟩) hHeld ?_
                  rotate_left
                  · intro w hSw
                    clear hSw
                    go_simp
                    try with_reducible rfl
                  try simp only [Act.put, List.setIfInBounds_toArray, List.set_cons_zero, List.set_cons_succ]
                  refine wpAnyH_take (i := 69) (oi := { dst := some 183, op := Op.pick (Operand.tmp 137) (Operand.const (Value.bool true)) (Operand.tmp 182), type := 4, pos := "outright.go:109", after := #[{ on := 23, ground := Ground.data }, { on := 68, ground := Ground.data }], guard := none }) (v := ?_) rfl (by kernel_rfl) (by kernel_rfl) (by kernel_rfl) (fun _ _ _ h => h) (Or.inl ⟨by rfl, ?_⟩) hHeld ?_
                  rotate_left
                  · intro w hSw
                    clear hSw
                    go_simp
                    try with_reducible rfl
                  try simp only [Act.put, List.setIfInBounds_toArray, List.set_cons_zero, List.set_cons_succ]
                  refine wpAnyH_done (by kernel_rfl) ?_ _
                  go_upto_region 22 with fail
                  refine rb_name fun Z8 hZ8 => ?_
                  have HB8 : Hid (Below Z.heap.size Z Z8) := HBY5.out.trans (Below.mono (by rw [hZ8]; exact hHeld) HBY5.out.size)
                  clear hZ8 hHeld
                  go_wp2_with fail
                  exact ⟨⟨n + 1, by go_num, by omega, HB8.out⟩, by simp [intOf]; omega⟩
                · have HPF := Lib.hid hpf
                  clear hpf
                  refine wp_region_eqD [{ dst := some 114, op := Op.move (Operand.tmp 15), type := 4, pos := "outright.go:109", after := #[], guard := none }, { dst := some 115, op := Op.unOp UnOp.not 4 (Operand.tmp 114), type := 4, pos := "outright.go:109", after := #[{ on := 0, ground := Ground.data }], guard := none }, { dst := some 116, op := Op.move (Operand.tmp 115), type := 4, pos := "outright.go:109", after := #[{ on := 1, ground := Ground.data }], guard := none }, { dst := some 117, op := Op.fieldAddr 47 (Operand.tmp 14) 5, type := 0, pos := "outright.go:109", after := #[{ on := 2, ground := Ground.guard }], guard := some (2, false) }, { dst := some 118, op := Op.load 4 (Operand.tmp 117), type := 4, pos := "outright.go:109", after := #[{ on := 3, ground := Ground.data }, { on := 2, ground := Ground.guard }], guard := some (2, false) }, { dst := some 119, op := Op.unOp UnOp.not 4 (Operand.tmp 118), type := 4, pos := "outright.go:109", after := #[{ on := 4, ground := Ground.data }, { on := 2, ground := Ground.guard }], guard := some (2, false) }, { dst := some 120, op := Op.pick (Operand.tmp 116) (Operand.const (Value.bool true)) (Operand.tmp 119), type := 4, pos := "outright.go:109", after := #[{ on := 2, ground := Ground.data }, { on := 5, ground := Ground.data }], guard := none }, { dst := some 121, op := Op.move (Operand.tmp 120), type := 4, pos := "outright.go:109", after := #[{ on := 6, ground := Ground.data }, { on := 2, ground := Ground.chain }], guard := none }, { dst := some 122, op := Op.fieldAddr 47 (Operand.tmp 14) 3, type := 0, pos := "outright.go:109", after := #[{ on := 7, ground := Ground.guard }], guard := some (7, false) }, { dst := some 123, op := Op.fieldAddr 41 (Operand.tmp 122) 4, type := 0, pos := "outright.go:109", after := #[{ on := 8, ground := Ground.data }, { on := 7, ground := Ground.guard }], guard := some (7, false) }, { dst := some 124, op := Op.load 30 (Operand.tmp 123), type := 30, pos := "outright.go:109", after := #[{ on := 9, ground := Ground.data }, { on := 7, ground := Ground.guard }], guard := some (7, false) }, { dst := some 125, op := Op.binOp BinOp.neq 30 (Operand.tmp 124) (Operand.const (Value.int IntKind.u32 1)) 30, type := 4, pos := "outright.go:109", after := #[{ on := 10, ground := Ground.data }, { on := 7, ground := Ground.guard }], guard := some (7, false) }, { dst := some 126, op := Op.pick (Operand.tmp 121) (Operand.const (Value.bool true)) (Operand.tmp 125), type := 4, pos := "outright.go:109", after := #[{ on := 7, ground := Ground.data }, { on := 11, ground := Ground.data }], guard := none }, { dst := some 127, op := Op.move (Operand.tmp 126), type := 4, pos := "outright.go:109", after := #[{ on := 12, ground := Ground.data }, { on := 7, ground := Ground.chain }], guard := none }, { dst := some 128, op := Op.move (Operand.tmp 17), type := 4, pos := "outright.go:109", after := #[{ on := 13, ground := Ground.guard }], guard := some (13, false) }, { dst := some 129, op := Op.pick (Operand.tmp 127) (Operand.const (Value.bool true)) (Operand.tmp 128), type := 4, pos := "outright.go:109", after := #[{ on := 13, ground := Ground.data }, { on := 14, ground := Ground.data }], guard := none }, { dst := some 130, op := Op.move (Operand.tmp 129), type := 4, pos := "outright.go:109", after := #[{ on := 15, ground := Ground.data }, { on := 13, ground := Ground.chain }], guard := none }, { dst := some 131, op := Op.fieldAddr 47 (Operand.tmp 14) 0, type := 0, pos := "outright.go:109", after := #[{ on := 16, ground := Ground.guard }], guard := some (16, false) }, { dst := some 132, op := Op.fieldAddr 29 (Operand.tmp 131) 0, type := 0, pos := "outright.go:109", after := #[{ on := 17, ground := Ground.data }, { on := 16, ground := Ground.guard }], guard := some (16, false) }, { dst := some 133, op := Op.load 3 (Operand.tmp 132), type := 3, pos := "outright.go:109", after := #[{ on := 18, ground := Ground.data }, { on := 16, ground := Ground.guard }], guard := some (16, false) }, { dst := some 134, op := Op.move (Operand.tmp 2), type := 3, pos := "outright.go:109", after := #[{ on := 16, ground := Ground.guard }], guard := some (16, false) }, { dst := some 135, op := Op.binOp BinOp.neq 3 (Operand.tmp 133) (Operand.tmp 134) 3, type := 4, pos := "outright.go:109", after := #[{ on := 19, ground := Ground.data }, { on := 20, ground := Ground.data }, { on := 16, ground := Ground.guard }], guard := some (16, false) }, { dst := some 136, op := Op.pick (Operand.tmp 130) (Operand.const (Value.bool true)) (Operand.tmp 135), type := 4, pos := "outright.go:109", after := #[{ on := 16, ground := Ground.data }, { on := 21, ground := Ground.data }], guard := none }, { dst := some 137, op := Op.move (Operand.tmp 136), type := 4, pos := "outright.go:109", after := #[{ on := 22, ground := Ground.data }, { on := 16, ground := Ground.chain }], guard := none }, { dst := some 138, op := Op.move (Operand.tmp 13), type := 3, pos := "outright.go:109", after := #[{ on := 23, ground := Ground.guard }], guard := some (23, false) }, { dst := some 139, op := Op.binOp BinOp.gtr 3 (Operand.tmp 138) (Operand.const (Value.int IntKind.i64 0)) 3, type := 4, pos := "outright.go:109", after := #[{ on := 24, ground := Ground.data }, { on := 23, ground := Ground.guard }], guard := some (23, false) }, { dst := some 140, op := Op.move (Operand.tmp 139), type := 4, pos := "outright.go:109", after := #[{ on := 25, ground := Ground.data }, { on := 23, ground := Ground.chain }, { on := 23, ground := Ground.guard }], guard := some (23, false) }, { dst := some 141, op := Op.move (Operand.tmp 12), type := 22, pos := "outright.go:109", after := #[{ on := 26, ground := Ground.guard }], guard := some (26, true) }, { dst := some 142, op := Op.move (Operand.tmp 13), type := 3, pos := "outright.go:109", after := #[{ on := 26, ground := Ground.guard }], guard := some (26, true) }, { dst := some 143, op := Op.binOp BinOp.sub 3 (Operand.tmp 142) (Operand.const (Value.int IntKind.i64 1)) 3, type := 3, pos := "outright.go:109", after := #[{ on := 28, ground := Ground.data }, { on := 26, ground := Ground.guard }], guard := some (26, true) }, { dst := some 144, op := Op.indexAddr 22 (Operand.tmp 141) (Operand.tmp 143), type := 0, pos := "outright.go:109", after := #[{ on := 27, ground := Ground.data }, { on := 29, ground := Ground.data }, { on := 26, ground := Ground.guard }], guard := some (26, true) }, { dst := some 145, op := Op.fieldAddr 32 (Operand.tmp 144) 0, type := 0, pos := "outright.go:109", after := #[{ on := 30, ground := Ground.data }, { on := 26, ground := Ground.guard }], guard := some (26, true) }, { dst := some 146, op := Op.load 29 (Operand.tmp 145), type := 29, pos := "outright.go:109", after := #[{ on := 31, ground := Ground.data }, { on := 26, ground := Ground.guard }], guard := some (26, true) }, { dst := some 147, op := Op.move (Operand.tmp 12), type := 22, pos := "outright.go:109", after := #[{ on := 26, ground := Ground.guard }], guard := some (26, true) }, { dst := some 148, op := Op.move (Operand.tmp 13), type := 3, pos := "outright.go:109", after := #[{ on := 26, ground := Ground.guard }], guard := some (26, true) }, { dst := some 149, op := Op.indexAddr 22 (Operand.tmp 147) (Operand.tmp 148), type := 0, pos := "outright.go:109", after := #[{ on := 33, ground := Ground.data }, { on := 34, ground := Ground.data }, { on := 26, ground := Ground.guard }], guard := some (26, true) }, { dst := some 150, op := Op.fieldAddr 32 (Operand.tmp 149) 0, type := 0, pos := "outright.go:109", after := #[{ on := 35, ground := Ground.data }, { on := 26, ground := Ground.guard }], guard := some (26, true) }, { dst := some 151, op := Op.load 29 (Operand.tmp 150), type := 29, pos := "outright.go:109", after := #[{ on := 36, ground := Ground.data }, { on := 26, ground := Ground.guard }], guard := some (26, true) }, { dst := some 152, op := Op.call { callee := Callee.value (Operand.func 19), args := #[Operand.tmp 146, Operand.tmp 151], argTypes := #[29, 29] }, type := 3, pos := "outright.go:109", after := #[{ on := 32, ground := Ground.data }, { on := 37, ground := Ground.data }, { on := 26, ground := Ground.chain }, { on := 26, ground := Ground.guard }], guard := some (26, true) }, { dst := some 153, op := Op.binOp BinOp.gtr 3 (Operand.tmp 152) (Operand.const (Value.int IntKind.i64 0)) 3, type := 4, pos := "outright.go:109", after := #[{ on := 38, ground := Ground.data }, { on := 26, ground := Ground.guard }], guard := some (26, true) }, { dst := some 154, op := Op.move (Operand.tmp 153), type := 4, pos := "outright.go:109", after := #[{ on := 39, ground := Ground.data }, { on := 38, ground := Ground.chain }, { on := 26, ground := Ground.guard }], guard := some (26, true) }, { dst := some 155, op := Op.move (Operand.tmp 12), type := 22, pos := "outright.go:109", after := #[{ on := 40, ground := Ground.guard }], guard := some (40, false) }, { dst := some 156, op := Op.move (Operand.tmp 13), type := 3, pos := "outright.go:109", after := #[{ on := 40, ground := Ground.guard }], guard := some (40, false) }, { dst := some 157, op := Op.binOp BinOp.sub 3 (Operand.tmp 156) (Operand.const (Value.int IntKind.i64 1)) 3, type := 3, pos := "outright.go:109", after := #[{ on := 42, ground := Ground.data }, { on := 40, ground := Ground.guard }], guard := some (40, false) }, { dst := some 158, op := Op.indexAddr 22 (Operand.tmp 155) (Operand.tmp 157), type := 0, pos := "outright.go:109", after := #[{ on := 41, ground := Ground.data }, { on := 43, ground := Ground.data }, { on := 40, ground := Ground.guard }], guard := some (40, false) }, { dst := some 159, op := Op.fieldAddr 32 (Operand.tmp 158) 0, type := 0, pos := "outright.go:109", after := #[{ on := 44, ground := Ground.data }, { on := 40, ground := Ground.guard }], guard := some (40, false) }, { dst := some 160, op := Op.load 29 (Operand.tmp 159), type := 29, pos := "outright.go:109", after := #[{ on := 45, ground := Ground.data }, { on := 40, ground := Ground.guard }], guard := some (40, false) }, { dst := some 161, op := Op.move (Operand.tmp 12), type := 22, pos := "outright.go:109", after := #[{ on := 40, ground := Ground.guard }], guard := some (40, false) }, { dst := some 162, op := Op.move (Operand.tmp 13), type := 3, pos := "outright.go:109", after := #[{ on := 40, ground := Ground.guard }], guard := some (40, false) }, { dst := some 163, op := Op.indexAddr 22 (Operand.tmp 161) (Operand.tmp 162), type := 0, pos := "outright.go:109", after := #[{ on := 47, ground := Ground.data }, { on := 48, ground := Ground.data }, { on := 40, ground := Ground.guard }], guard := some (40, false) }, { dst := some 164, op := Op.fieldAddr 32 (Operand.tmp 163) 0, type := 0, pos := "outright.go:109", after := #[{ on := 49, ground := Ground.data }, { on := 40, ground := Ground.guard }], guard := some (40, false) }, { dst := some 165, op := Op.load 29 (Operand.tmp 164), type := 29, pos := "outright.go:109", after := #[{ on := 50, ground := Ground.data }, { on := 40, ground := Ground.guard }], guard := some (40, false) }, { dst := some 166, op := Op.binOp BinOp.eql 29 (Operand.tmp 160) (Operand.tmp 165) 29, type := 4, pos := "outright.go:109", after := #[{ on := 46, ground := Ground.data }, { on := 51, ground := Ground.data }, { on := 40, ground := Ground.guard }], guard := some (40, false) }, { dst := some 167, op := Op.move (Operand.tmp 166), type := 4, pos := "outright.go:109", after := #[{ on := 52, ground := Ground.data }, { on := 40, ground := Ground.chain }, { on := 40, ground := Ground.guard }], guard := some (40, false) }, { dst := some 168, op := Op.move (Operand.tmp 12), type := 22, pos := "outright.go:109", after := #[{ on := 53, ground := Ground.guard }], guard := some (53, true) }, { dst := some 169, op := Op.move (Operand.tmp 13), type := 3, pos := "outright.go:109", after := #[{ on := 53, ground := Ground.guard }], guard := some (53, true) }, { dst := some 170, op := Op.binOp BinOp.sub 3 (Operand.tmp 169) (Operand.const (Value.int IntKind.i64 1)) 3, type := 3, pos := "outright.go:109", after := #[{ on := 55, ground := Ground.data }, { on := 53, ground := Ground.guard }], guard := some (53, true) }, { dst := some 171, op := Op.indexAddr 22 (Operand.tmp 168) (Operand.tmp 170), type := 0, pos := "outright.go:109", after := #[{ on := 54, ground := Ground.data }, { on := 56, ground := Ground.data }, { on := 53, ground := Ground.guard }], guard := some (53, true) }, { dst := some 172, op := Op.fieldAddr 32 (Operand.tmp 171) 1, type := 0, pos := "outright.go:109", after := #[{ on := 57, ground := Ground.data }, { on := 53, ground := Ground.guard }], guard := some (53, true) }, { dst := some 173, op := Op.load 30 (Operand.tmp 172), type := 30, pos := "outright.go:109", after := #[{ on := 58, ground := Ground.data }, { on := 53, ground := Ground.guard }], guard := some (53, true) }, { dst := some 174, op := Op.move (Operand.tmp 12), type := 22, pos := "outright.go:109", after := #[{ on := 53, ground := Ground.guard }], guard := some (53, true) }, { dst := some 175, op := Op.move (Operand.tmp 13), type := 3, pos := "outright.go:109", after := #[{ on := 53, ground := Ground.guard }], guard := some (53, true) }, { dst := some 176, op := Op.indexAddr 22 (Operand.tmp 174) (Operand.tmp 175), type := 0, pos := "outright.go:109", after := #[{ on := 60, ground := Ground.data }, { on := 61, ground := Ground.data }, { on := 53, ground := Ground.guard }], guard := some (53, true) }, { dst := some 177, op := Op.fieldAddr 32 (Operand.tmp 176) 1, type := 0, pos := "outright.go:109", after := #[{ on := 62, ground := Ground.data }, { on := 53, ground := Ground.guard }], guard := some (53, true) }, { dst := some 178, op := Op.load 30 (Operand.tmp 177), type := 30, pos := "outright.go:109", after := #[{ on := 63, ground := Ground.data }, { on := 53, ground := Ground.guard }], guard := some (53, true) }, { dst := some 179, op := Op.binOp BinOp.geq 30 (Operand.tmp 173) (Operand.tmp 178) 30, type := 4, pos := "outright.go:109", after := #[{ on := 59, ground := Ground.data }, { on := 64, ground := Ground.data }, { on := 53, ground := Ground.guard }], guard := some (53, true) }, { dst := some 180, op := Op.pick (Operand.tmp 167) (Operand.tmp 179) (Operand.const (Value.bool false)), type := 4, pos := "outright.go:109", after := #[{ on := 53, ground := Ground.data }, { on := 65, ground := Ground.data }, { on := 40, ground := Ground.guard }], guard := some (40, false) }, { dst := some 181, op := Op.pick (Operand.tmp 154) (Operand.const (Value.bool true)) (Operand.tmp 180), type := 4, pos := "outright.go:109", after := #[{ on := 40, ground := Ground.data }, { on := 66, ground := Ground.data }, { on := 26, ground := Ground.guard }], guard := some (26, true) }, { dst := some 182, op := Op.pick (Operand.tmp 140) (Operand.tmp 181) (Operand.const (Value.bool false)), type := 4, pos := "outright.go:109", after := #[{ on := 26, ground := Ground.data }, { on := 67, ground := Ground.data }, { on := 23, ground := Ground.guard }], guard := some (23, false) }, { dst := some 183, op := Op.pick (Operand.tmp 137) (Operand.const (Value.bool true)) (Operand.tmp 182), type := 4, pos := "outright.go:109", after := #[{ on := 23, ground := Ground.data }, { on := 68, ground := Ground.data }], guard := none }] (by kernel_rfl) ?_
                  refine wp_region_held_drew (S := fun w' => Below Y5.heap.size Y5 w') (by kernel_rfl) (below_drewN (Below.refl _ _) 1) (fun hHeld => ?_)
                  refine wpAnyH_take (i := 0) (oi := { dst := some 114, op := Op.move (Operand.tmp 15), type := 4, pos := "outright.go:109", after := #[], guard := none }) (v := ?_) rfl (by kernel_rfl) (by kernel_rfl) (by kernel_rfl) (fun _ _ _ h => h) (Or.inl ⟨by rfl, ?_⟩) hHeld ?_
                  rotate_left
                  · intro w hSw
                    clear hSw
                    go_simp
                    try with_reducible rfl
                  try simp only [Act.put, List.setIfInBounds_toArray, List.set_cons_zero, List.set_cons_succ]
                  refine wpAnyH_take (i := 1) (oi := { dst := some 115, op := Op.unOp UnOp.not 4 (Operand.tmp 114), type := 4, pos := "outright.go:109", after := #[{ on := 0, ground := Ground.data }], guard := none }) (v := ?_) rfl (by kernel_rfl) (by kernel_rfl) (by kernel_rfl) (fun _ _ _ h => h) (Or.inl ⟨by rfl, ?_⟩) hHeld ?_
                  rotate_left
                  · intro w hSw
                    clear hSw
                    go_simp
                    try with_reducible rfl
                  try simp only [Act.put, List.setIfInBounds_toArray, List.set_cons_zero, List.set_cons_succ]
                  refine wpAnyH_take (i := 2) (oi := { dst := some 116, op := Op.move (Operand.tmp 115), type := 4, pos := "outright.go:109", after := #[{ on := 1, ground := Ground.data }], guard := none }) (v := ?_) rfl (by kernel_rfl) (by kernel_rfl) (by kernel_rfl) (fun _ _ _ h => h) (Or.inl ⟨by rfl, ?_⟩) hHeld ?_
                  rotate_left
                  · intro w hSw
                    clear hSw
                    go_simp
                    try with_reducible rfl
                  try simp only [Act.put, List.setIfInBounds_toArray, List.set_cons_zero, List.set_cons_succ]
                  refine wpAnyH_take (i := 3) (oi := { dst := some 117, op := Op.fieldAddr 47 (Operand.tmp 14) 5, type := 0, pos := "outright.go:109", after := #[{ on := 2, ground := Ground.guard }], guard := some (2, false) }) (v := ?_) rfl (by kernel_rfl) (by kernel_rfl) (by kernel_rfl) (fun _ _ _ h => h) (Or.inl ⟨by rfl, ?_⟩) hHeld ?_
                  rotate_left
                  · intro w hSw
                    clear hSw
                    go_simp
                    try with_reducible rfl
                  try simp only [Act.put, List.setIfInBounds_toArray, List.set_cons_zero, List.set_cons_succ]
                  refine wpAnyH_take (i := 4) (oi := { dst := some 118, op := Op.load 4 (Operand.tmp 117), type := 4, pos := "outright.go:109", after := #[{ on := 3, ground := Ground.data }, { on := 2, ground := Ground.guard }], guard := some (2, false) }) (v := ?_) rfl (by kernel_rfl) (by kernel_rfl) (by kernel_rfl) (fun _ _ _ h => h) (Or.inl ⟨by rfl, ?_⟩) hHeld ?_
                  rotate_left
                  · intro w hSw
                    obtain ⟨p0, p10, p28⟩ := HP3.out w hSw
                    obtain ⟨c0, c1, c2, c3, c4, c5⟩ := HROWI.out w (HBY5.out.trans (hSw.mono HBY5.out.size))
                    obtain ⟨d0, d1, d2, d3, d4, d5⟩ := HROWK.out w (HBY5.out.trans (hSw.mono HBY5.out.size))
                    go_simp
                    try with_reducible rfl
                  try simp only [Act.put, List.setIfInBounds_toArray, List.set_cons_zero, List.set_cons_succ]
                  refine wpAnyH_take (i := 5) (oi := { dst := some 119, op := Op.unOp UnOp.not 4 (Operand.tmp 118), type := 4, pos := "outright.go:109", after := #[{ on := 4, ground := Ground.data }, { on := 2, ground := Ground.guard }], guard := some (2, false) }) (v := ?_) rfl (by kernel_rfl) (by kernel_rfl) (by kernel_rfl) (fun _ _ _ h => h) (Or.inl ⟨by rfl, ?_⟩) hHeld ?_
                  rotate_left
                  · intro w hSw
                    clear hSw
                    go_simp
                    try with_reducible rfl
                  try simp only [Act.put, List.setIfInBounds_toArray, List.set_cons_zero, List.set_cons_succ]
                  refine wpAnyH_take (i := 6) (oi := { dst := some 120, op := Op.pick (Operand.tmp 116) (Operand.const (Value.bool true)) (Operand.tmp 119), type := 4, pos := "outright.go:109", after := #[{ on := 2, ground := Ground.data }, { on := 5, ground := Ground.data }], guard := none }) (v := ?_) rfl (by kernel_rfl) (by kernel_rfl) (by kernel_rfl) (fun _ _ _ h => h) (Or.inl ⟨by rfl, ?_⟩) hHeld ?_
                  rotate_left
                  · intro w hSw
                    clear hSw
                    go_simp
                    try with_reducible rfl
                  try simp only [Act.put, List.setIfInBounds_toArray, List.set_cons_zero, List.set_cons_succ]
                  refine wpAnyH_take (i := 7) (oi := { dst := some 121, op := Op.move (Operand.tmp 120), type := 4, pos := "outright.go:109", after := #[{ on := 6, ground := Ground.data }, { on := 2, ground := Ground.chain }], guard := none }) (v := ?_) rfl (by kernel_rfl) (by kernel_rfl) (by kernel_rfl) (fun _ _ _ h => h) (Or.inl ⟨by rfl, ?_⟩) hHeld ?_
                  rotate_left
                  · intro w hSw
                    clear hSw
                    go_simp
                    try with_reducible rfl
                  try simp only [Act.put, List.setIfInBounds_toArray, List.set_cons_zero, List.set_cons_succ]
                  refine wpAnyH_take (i := 8) (oi := { dst := some 122, op := Op.fieldAddr 47 (Operand.tmp 14) 3, type := 0, pos := "outright.go:109", after := #[{ on := 7, ground := Ground.guard }], guard := some (7, false) }) (v := ?_) rfl (by kernel_rfl) (by kernel_rfl) (by kernel_rfl) (fun _ _ _ h => h) (Or.inl ⟨by rfl, ?_⟩) hHeld ?_
                  rotate_left
                  · intro w hSw
                    clear hSw
                    go_simp
                    try with_reducible rfl
                  try simp only [Act.put, List.setIfInBounds_toArray, List.set_cons_zero, List.set_cons_succ]
                  refine wpAnyH_take (i := 9) (oi := { dst := some 123, op := Op.fieldAddr 41 (Operand.tmp 122) 4, type := 0, pos := "outright.go:109", after := #[{ on := 8, ground := Ground.data }, { on := 7, ground := Ground.guard }], guard := some (7, false) }) (v := ?_) rfl (by kernel_rfl) (by kernel_rfl) (by kernel_rfl) (fun _ _ _ h => h) (Or.inl ⟨by rfl, ?_⟩) hHeld ?_
                  rotate_left
                  · intro w hSw
                    clear hSw
                    go_simp
                    try with_reducible rfl
                  try simp only [Act.put, List.setIfInBounds_toArray, List.set_cons_zero, List.set_cons_succ]
                  refine wpAnyH_take (i := 10) (oi := { dst := some 124, op := Op.load 30 (Operand.tmp 123), type := 30, pos := "outright.go:109", after := #[{ on := 9, ground := Ground.data }, { on := 7, ground := Ground.guard }], guard := some (7, false) }) (v := ?_) rfl (by kernel_rfl) (by kernel_rfl) (by kernel_rfl) (fun _ _ _ h => h) (Or.inl ⟨by rfl, ?_⟩) hHeld ?_
                  rotate_left
                  · intro w hSw
                    obtain ⟨p0, p10, p28⟩ := HP3.out w hSw
                    obtain ⟨c0, c1, c2, c3, c4, c5⟩ := HROWI.out w (HBY5.out.trans (hSw.mono HBY5.out.size))
                    obtain ⟨d0, d1, d2, d3, d4, d5⟩ := HROWK.out w (HBY5.out.trans (hSw.mono HBY5.out.size))
                    go_simp
                    try with_reducible rfl
                  try simp only [Act.put, List.setIfInBounds_toArray, List.set_cons_zero, List.set_cons_succ]
                  refine wpAnyH_take (i := 11) (oi := { dst := some 125, op := Op.binOp BinOp.neq 30 (Operand.tmp 124) (Operand.const (Value.int IntKind.u32 1)) 30, type := 4, pos := "outright.go:109", after := #[{ on := 10, ground := Ground.data }, { on := 7, ground := Ground.guard }], guard := some (7, false) }) (v := ?_) rfl (by kernel_rfl) (by kernel_rfl) (by kernel_rfl) (fun _ _ _ h => h) (Or.inl ⟨by rfl, ?_⟩) hHeld ?_
                  rotate_left
                  · intro w hSw
                    clear hSw
                    go_simp
                    try with_reducible rfl
                  try simp only [Act.put, List.setIfInBounds_toArray, List.set_cons_zero, List.set_cons_succ]
                  refine wpAnyH_take (i := 12) (oi := { dst := some 126, op := Op.pick (Operand.tmp 121) (Operand.const (Value.bool true)) (Operand.tmp 125), type := 4, pos := "outright.go:109", after := #[{ on := 7, ground := Ground.data }, { on := 11, ground := Ground.data }], guard := none }) (v := ?_) rfl (by kernel_rfl) (by kernel_rfl) (by kernel_rfl) (fun _ _ _ h => h) (Or.inl ⟨by rfl, ?_⟩) hHeld ?_
                  rotate_left
                  · intro w hSw
                    clear hSw
                    go_simp
                    try with_reducible rfl
                  try simp only [Act.put, List.setIfInBounds_toArray, List.set_cons_zero, List.set_cons_succ]
                  refine wpAnyH_take (i := 13) (oi := { dst := some 127, op := Op.move (Operand.tmp 126), type := 4, pos := "outright.go:109", after := #[{ on := 12, ground := Ground.data }, { on := 7, ground := Ground.chain }], guard := none }) (v := ?_) rfl (by kernel_rfl) (by kernel_rfl) (by kernel_rfl) (fun _ _ _ h => h) (Or.inl ⟨by rfl, ?_⟩) hHeld ?_
                  rotate_left
                  · intro w hSw
                    clear hSw
                    go_simp
                    try with_reducible rfl
                  try simp only [Act.put, List.setIfInBounds_toArray, List.set_cons_zero, List.set_cons_succ]
                  refine wpAnyH_take (i := 14) (oi := { dst := some 128, op := Op.move (Operand.tmp 17), type := 4, pos := "outright.go:109", after := #[{ on := 13, ground := Ground.guard }], guard := some (13, false) }) (v := ?_) rfl (by kernel_rfl) (by kernel_rfl) (by kernel_rfl) (fun _ _ _ h => h) (Or.inl ⟨by rfl, ?_⟩) hHeld ?_
                  rotate_left
                  · intro w hSw
                    clear hSw
                    go_simp
                    try with_reducible rfl
                  try simp only [Act.put, List.setIfInBounds_toArray, List.set_cons_zero, List.set_cons_succ]
                  refine wpAnyH_take (i := 15) (oi := { dst := some 129, op := Op.pick (Operand.tmp 127) (Operand.const (Value.bool true)) (Operand.tmp 128), type := 4, pos := "outright.go:109", after := #[{ on := 13, ground := Ground.data }, { on := 14, ground := Ground.data }], guard := none }) (v := ?_) rfl (by kernel_rfl) (by kernel_rfl) (by kernel_rfl) (fun _ _ _ h => h) (Or.inl ⟨by rfl, ?_⟩) hHeld ?_
                  rotate_left
                  · intro w hSw
                    clear hSw
                    go_simp
                    try with_reducible rfl
                  try simp only [Act.put, List.setIfInBounds_toArray, List.set_cons_zero, List.set_cons_succ]
                  refine wpAnyH_take (i := 16) (oi := { dst := some 130, op := Op.move (Operand.tmp 129), type := 4, pos := "outright.go:109", after := #[{ on := 15, ground := Ground.data }, { on := 13, ground := Ground.chain }], guard := none }) (v := ?_) rfl (by kernel_rfl) (by kernel_rfl) (by kernel_rfl) (fun _ _ _ h => h) (Or.inl ⟨by rfl, ?_⟩) hHeld ?_
                  rotate_left
                  · intro w hSw
                    clear hSw
                    go_simp
                    try with_reducible rfl
                  try simp only [Act.put, List.setIfInBounds_toArray, List.set_cons_zero, List.set_cons_succ]
                  refine wpAnyH_take (i := 17) (oi := { dst := some 131, op := Op.fieldAddr 47 (Operand.tmp 14) 0, type := 0, pos := "outright.go:109", after := #[{ on := 16, ground := Ground.guard }], guard := some (16, false) }) (v := ?_) rfl (by kernel_rfl) (by kernel_rfl) (by kernel_rfl) (fun _ _ _ h => h) (Or.inl ⟨by rfl, ?_⟩) hHeld ?_
                  rotate_left
                  · intro w hSw
                    clear hSw
                    go_simp
                    try with_reducible rfl
                  try simp only [Act.put, List.setIfInBounds_toArray, List.set_cons_zero, List.set_cons_succ]
                  refine wpAnyH_take (i := 18) (oi := { dst := some 132, op := Op.fieldAddr 29 (Operand.tmp 131) 0, type := 0, pos := "outright.go:109", after := #[{ on := 17, ground := Ground.data }, { on := 16, ground := Ground.guard }], guard := some (16, false) }) (v := ?_) rfl (by kernel_rfl) (by kernel_rfl) (by kernel_rfl) (fun _ _ _ h => h) (Or.inl ⟨by rfl, ?_⟩) hHeld ?_
                  rotate_left
                  · intro w hSw
                    clear hSw
                    go_simp
                    try with_reducible rfl
                  try simp only [Act.put, List.setIfInBounds_toArray, List.set_cons_zero, List.set_cons_succ]
                  refine wpAnyH_take (i := 19) (oi := { dst := some 133, op := Op.load 3 (Operand.tmp 132), type := 3, pos := "outright.go:109", after := #[{ on := 18, ground := Ground.data }, { on := 16, ground := Ground.guard }], guard := some (16, false) }) (v := ?_) rfl (by kernel_rfl) (by kernel_rfl) (by kernel_rfl) (fun _ _ _ h => h) (Or.inl ⟨by rfl, ?_⟩) hHeld ?_
                  rotate_left
                  · intro w hSw
                    obtain ⟨p0, p10, p28⟩ := HP3.out w hSw
                    obtain ⟨c0, c1, c2, c3, c4, c5⟩ := HROWI.out w (HBY5.out.trans (hSw.mono HBY5.out.size))
                    obtain ⟨d0, d1, d2, d3, d4, d5⟩ := HROWK.out w (HBY5.out.trans (hSw.mono HBY5.out.size))
                    go_simp
                    try with_reducible rfl
                  try simp only [Act.put, List.setIfInBounds_toArray, List.set_cons_zero, List.set_cons_succ]
                  refine wpAnyH_take (i := 20) (oi := { dst := some 134, op := Op.move (Operand.tmp 2), type := 3, pos := "outright.go:109", after := #[{ on := 16, ground := Ground.guard }], guard := some (16, false) }) (v := ?_) rfl (by kernel_rfl) (by kernel_rfl) (by kernel_rfl) (fun _ _ _ h => h) (Or.inl ⟨by rfl, ?_⟩) hHeld ?_
                  rotate_left
                  · intro w hSw
                    clear hSw
                    go_simp
                    try with_reducible rfl
                  try simp only [Act.put, List.setIfInBounds_toArray, List.set_cons_zero, List.set_cons_succ]
                  refine wpAnyH_take (i := 21) (oi := { dst := some 135, op := Op.binOp BinOp.neq 3 (Operand.tmp 133) (Operand.tmp 134) 3, type := 4, pos := "outright.go:109", after := #[{ on := 19, ground := Ground.data }, { on := 20, ground := Ground.data }, { on := 16, ground := Ground.guard }], guard := some (16, false) }) (v := ?_) rfl (by kernel_rfl) (by kernel_rfl) (by kernel_rfl) (fun _ _ _ h => h) (Or.inl ⟨by rfl, ?_⟩) hHeld ?_
                  rotate_left
                  · intro w hSw
                    clear hSw
                    go_simp
                    try with_reducible rfl
                  try simp only [Act.put, List.setIfInBounds_toArray, List.set_cons_zero, List.set_cons_succ]
                  refine wpAnyH_take (i := 22) (oi := { dst := some 136, op := Op.pick (Operand.tmp 130) (Operand.const (Value.bool true)) (Operand.tmp 135), type := 4, pos := "outright.go:109", after := #[{ on := 16, ground := Ground.data }, { on := 21, ground := Ground.data }], guard := none }) (v := ?_) rfl (by kernel_rfl) (by kernel_rfl) (by kernel_rfl) (fun _ _ _ h => h) (Or.inl ⟨by rfl, ?_⟩) hHeld ?_
                  rotate_left
                  · intro w hSw
                    clear hSw
                    go_simp
                    try with_reducible rfl
                  try simp only [Act.put, List.setIfInBounds_toArray, List.set_cons_zero, List.set_cons_succ]
                  refine wpAnyH_take (i := 23) (oi := { dst := some 137, op := Op.move (Operand.tmp 136), type := 4, pos := "outright.go:109", after := #[{ on := 22, ground := Ground.data }, { on := 16, ground := Ground.chain }], guard := none }) (v := ?_) rfl (by kernel_rfl) (by kernel_rfl) (by kernel_rfl) (fun _ _ _ h => h) (Or.inl ⟨by rfl, ?_⟩) hHeld ?_
                  rotate_left
                  · intro w hSw
                    clear hSw
                    go_simp
                    try with_reducible rfl
                  try simp only [Act.put, List.setIfInBounds_toArray, List.set_cons_zero, List.set_cons_succ]
                  refine wpAnyH_take (i := 24) (oi := { dst := some 138, op := Op.move (Operand.tmp 13), type := 3, pos := "outright.go:109", after := #[{ on := 23, ground := Ground.guard }], guard := some (23, false) }) (v := ?_) rfl (by kernel_rfl) (by kernel_rfl) (by kernel_rfl) (fun _ _ _ h => h) (Or.inl ⟨by rfl, ?_⟩) hHeld ?_
                  rotate_left
                  · intro w hSw
                    clear hSw
                    go_simp
                    try with_reducible rfl
                  try simp only [Act.put, List.setIfInBounds_toArray, List.set_cons_zero, List.set_cons_succ]
                  refine wpAnyH_take (i := 25) (oi := { dst := some 139, op := Op.binOp BinOp.gtr 3 (Operand.tmp 138) (Operand.const (Value.int IntKind.i64 0)) 3, type := 4, pos := "outright.go:109", after := #[{ on := 24, ground := Ground.data }, { on := 23, ground := Ground.guard }], guard := some (23, false) }) (v := ?_) rfl (by kernel_rfl) (by kernel_rfl) (by kernel_rfl) (fun _ _ _ h => h) (Or.inl ⟨by rfl, ?_⟩) hHeld ?_
                  rotate_left
                  · intro w hSw
                    clear hSw
                    go_simp
                    try with_reducible rfl
                  try simp only [Act.put, List.setIfInBounds_toArray, List.set_cons_zero, List.set_cons_succ]
                  refine wpAnyH_take (i := 26) (oi := { dst := some 140, op := Op.move (Operand.tmp 139), type := 4, pos := "outright.go:109", after := #[{ on := 25, ground := Ground.data }, { on := 23, ground := Ground.chain }, { on := 23, ground := Ground.guard }], guard := some (23, false) }) (v := ?_) rfl (by kernel_rfl) (by kernel_rfl) (by kernel_rfl) (fun _ _ _ h => h) (Or.inl ⟨by rfl, ?_⟩) hHeld ?_
                  rotate_left
                  · intro w hSw
                    clear hSw
                    go_simp
                    try with_reducible rfl
                  try simp only [Act.put, List.setIfInBounds_toArray, List.set_cons_zero, List.set_cons_succ]
                  refine wpAnyH_take (i := 27) (oi := { dst := some 141, op := Op.move (Operand.tmp 12), type := 22, pos := "outright.go:109", after := #[{ on := 26, ground := Ground.guard }], guard := some (26, true) }) (v := ?_) rfl (by kernel_rfl) (by kernel_rfl) (by kernel_rfl) (fun _ _ _ h => h) (Or.inl ⟨by rfl, ?_⟩) hHeld ?_
                  rotate_left
                  · intro w hSw
                    clear hSw
                    go_simp
                    try with_reducible rfl
                  try simp only [Act.put, List.setIfInBounds_toArray, List.set_cons_zero, List.set_cons_succ]
                  refine wpAnyH_take (i := 28) (oi := { dst := some 142, op := Op.move (Operand.tmp 13), type := 3, pos := "outright.go:109", after := #[{ on := 26, ground := Ground.guard }], guard := some (26, true) }) (v := ?_) rfl (by kernel_rfl) (by kernel_rfl) (by kernel_rfl) (fun _ _ _ h => h) (Or.inl ⟨by rfl, ?_⟩) hHeld ?_
                  rotate_left
                  · intro w hSw
                    clear hSw
                    go_simp
                    try with_reducible rfl
                  try simp only [Act.put, List.setIfInBounds_toArray, List.set_cons_zero, List.set_cons_succ]
                  refine wpAnyH_take (i := 29) (oi := { dst := some 143, op := Op.binOp BinOp.sub 3 (Operand.tmp 142) (Operand.const (Value.int IntKind.i64 1)) 3, type := 3, pos := "outright.go:109", after := #[{ on := 28, ground := Ground.data }, { on := 26, ground := Ground.guard }], guard := some (26, true) }) (v := ?_) rfl (by kernel_rfl) (by kernel_rfl) (by kernel_rfl) (fun _ _ _ h => h) (Or.inl ⟨by rfl, ?_⟩) hHeld ?_
                  rotate_left
                  · intro w hSw
                    clear hSw
                    go_simp
                    try with_reducible rfl
                  try simp only [Act.put, List.setIfInBounds_toArray, List.set_cons_zero, List.set_cons_succ]
                  refine wpAnyH_take (i := 30) (oi := { dst := some 144, op := Op.indexAddr 22 (Operand.tmp 141) (Operand.tmp 143), type := 0, pos := "outright.go:109", after := #[{ on := 27, ground := Ground.data }, { on := 29, ground := Ground.data }, { on := 26, ground := Ground.guard }], guard := some (26, true) }) (v := ?_) rfl (by kernel_rfl) (by kernel_rfl) (by kernel_rfl) (fun _ _ _ h => h) (Or.inl ⟨by rfl, ?_⟩) hHeld ?_
                  rotate_left
                  · intro w hSw
                    clear hSw
                    go_simp
                    try with_reducible rfl
                  try simp only [Act.put, List.setIfInBounds_toArray, List.set_cons_zero, List.set_cons_succ]
                  refine wpAnyH_take (i := 31) (oi := { dst := some 145, op := Op.fieldAddr 32 (Operand.tmp 144) 0, type := 0, pos := "outright.go:109", after := #[{ on := 30, ground := Ground.data }, { on := 26, ground := Ground.guard }], guard := some (26, true) }) (v := ?_) rfl (by kernel_rfl) (by kernel_rfl) (by kernel_rfl) (fun _ _ _ h => h) (Or.inl ⟨by rfl, ?_⟩) hHeld ?_
                  rotate_left
                  · intro w hSw
                    clear hSw
                    go_simp
                    try with_reducible rfl
                  try simp only [Act.put, List.setIfInBounds_toArray, List.set_cons_zero, List.set_cons_succ]
                  refine wpAnyH_take (i := 32) (oi := { dst := some 146, op := Op.load 29 (Operand.tmp 145), type := 29, pos := "outright.go:109", after := #[{ on := 31, ground := Ground.data }, { on := 26, ground := Ground.guard }], guard := some (26, true) }) (v := ?_) rfl (by kernel_rfl) (by kernel_rfl) (by kernel_rfl) (fun _ _ _ h => h) (Or.inl ⟨by rfl, ?_⟩) hHeld ?_
                  rotate_left
                  · intro w hSw
                    obtain ⟨p0, p10, p28⟩ := HP3.out w hSw
                    obtain ⟨c0, c1, c2, c3, c4, c5⟩ := HROWI.out w (HBY5.out.trans (hSw.mono HBY5.out.size))
                    obtain ⟨d0, d1, d2, d3, d4, d5⟩ := HROWK.out w (HBY5.out.trans (hSw.mono HBY5.out.size))
                    go_simp
                    try with_reducible rfl
                  try simp only [Act.put, List.setIfInBounds_toArray, List.set_cons_zero, List.set_cons_succ]
                  refine wpAnyH_take (i := 33) (oi := { dst := some 147, op := Op.move (Operand.tmp 12), type := 22, pos := "outright.go:109", after := #[{ on := 26, ground := Ground.guard }], guard := some (26, true) }) (v := ?_) rfl (by kernel_rfl) (by kernel_rfl) (by kernel_rfl) (fun _ _ _ h => h) (Or.inl ⟨by rfl, ?_⟩) hHeld ?_
                  rotate_left
                  · intro w hSw
                    clear hSw
                    go_simp
                    try with_reducible rfl
                  try simp only [Act.put, List.setIfInBounds_toArray, List.set_cons_zero, List.set_cons_succ]
                  refine wpAnyH_take (i := 34) (oi := { dst := some 148, op := Op.move (Operand.tmp 13), type := 3, pos := "outright.go:109", after := #[{ on := 26, ground := Ground.guard }], guard := some (26, true) }) (v := ?_) rfl (by kernel_rfl) (by kernel_rfl) (by kernel_rfl) (fun _ _ _ h => h) (Or.inl ⟨by rfl, ?_⟩) hHeld ?_
                  rotate_left
                  · intro w hSw
                    clear hSw
                    go_simp
                    try with_reducible rfl
                  try simp only [Act.put, List.setIfInBounds_toArray, List.set_cons_zero, List.set_cons_succ]
                  refine wpAnyH_take (i := 35) (oi := { dst := some 149, op := Op.indexAddr 22 (Operand.tmp 147) (Operand.tmp 148), type := 0, pos := "outright.go:109", after := #[{ on := 33, ground := Ground.data }, { on := 34, ground := Ground.data }, { on := 26, ground := Ground.guard }], guard := some (26, true) }) (v := ?_) rfl (by kernel_rfl) (by kernel_rfl) (by kernel_rfl) (fun _ _ _ h => h) (Or.inl ⟨by rfl, ?_⟩) hHeld ?_
                  rotate_left
                  · intro w hSw
                    clear hSw
                    go_simp
                    try with_reducible rfl
                  try simp only [Act.put, List.setIfInBounds_toArray, List.set_cons_zero, List.set_cons_succ]
                  refine wpAnyH_take (i := 36) (oi := { dst := some 150, op := Op.fieldAddr 32 (Operand.tmp 149) 0, type := 0, pos := "outright.go:109", after := #[{ on := 35, ground := Ground.data }, { on := 26, ground := Ground.guard }], guard := some (26, true) }) (v := ?_) rfl (by kernel_rfl) (by kernel_rfl) (by kernel_rfl) (fun _ _ _ h => h) (Or.inl ⟨by rfl, ?_⟩) hHeld ?_
                  rotate_left
                  · intro w hSw
                    clear hSw
                    go_simp
                    try with_reducible rfl
                  try simp only [Act.put, List.setIfInBounds_toArray, List.set_cons_zero, List.set_cons_succ]
                  refine wpAnyH_take (i := 37) (oi := { dst := some 151, op := Op.load 29 (Operand.tmp 150), type := 29, pos := "outright.go:109", after := #[{ on := 36, ground := Ground.data }, { on := 26, ground := Ground.guard }], guard := some (26, true) }) (v := ?_) rfl (by kernel_rfl) (by kernel_rfl) (by kernel_rfl) (fun _ _ _ h => h) (Or.inl ⟨by rfl, ?_⟩) hHeld ?_
                  rotate_left
                  · intro w hSw
                    obtain ⟨p0, p10, p28⟩ := HP3.out w hSw
                    obtain ⟨c0, c1, c2, c3, c4, c5⟩ := HROWI.out w (HBY5.out.trans (hSw.mono HBY5.out.size))
                    obtain ⟨d0, d1, d2, d3, d4, d5⟩ := HROWK.out w (HBY5.out.trans (hSw.mono HBY5.out.size))
                    go_simp
                    try with_reducible rfl
                  try simp only [Act.put, List.setIfInBounds_toArray, List.set_cons_zero, List.set_cons_succ]
                  refine wpAnyH_ready (rs := [38]) (by kernel_rfl) (by simp) ?_
                  refine AllReadyH.cons (o := { dst := some 152, op := Op.call { callee := Callee.value (Operand.func 19), args := #[Operand.tmp 146, Operand.tmp 151], argTypes := #[29, 29] }, type := 3, pos := "outright.go:109", after := #[{ on := 32, ground := Ground.data }, { on := 37, ground := Ground.data }, { on := 26, ground := Ground.chain }, { on := 26, ground := Ground.guard }], guard := some (26, true) }) rfl (fun K hK => ?_) AllReadyH.nil
                  go_simp
                  refine (HCMP.out _).mono ?_
                  rintro e w9 ⟨rfl, hw9⟩
                  refine hK.out _ _ (hHeld.trans (hw9.mono hHeld.size)) (fun hHeld => ?_)
                  clear hK K
                  try simp only [Act.put, List.setIfInBounds_toArray, List.set_cons_zero, List.set_cons_succ]
                  refine wpAnyH_take (i := 39) (oi := { dst := some 153, op := Op.binOp BinOp.gtr 3 (Operand.tmp 152) (Operand.const (Value.int IntKind.i64 0)) 3, type := 4, pos := "outright.go:109", after := #[{ on := 38, ground := Ground.data }, { on := 26, ground := Ground.guard }], guard := some (26, true) }) (v := ?_) rfl (by kernel_rfl) (by kernel_rfl) (by kernel_rfl) (fun _ _ _ h => h) (Or.inl ⟨by rfl, ?_⟩) hHeld ?_
                  rotate_left
                  · intro w hSw
                    clear hSw
                    go_simp
                    try with_reducible rfl
                  try simp only [Act.put, List.setIfInBounds_toArray, List.set_cons_zero, List.set_cons_succ]
                  refine wpAnyH_take (i := 40) (oi := { dst := some 154, op := Op.move (Operand.tmp 153), type := 4, pos := "outright.go:109", after := #[{ on := 39, ground := Ground.data }, { on := 38, ground := Ground.chain }, { on := 26, ground := Ground.guard }], guard := some (26, true) }) (v := ?_) rfl (by kernel_rfl) (by kernel_rfl) (by kernel_rfl) (fun _ _ _ h => h) (Or.inl ⟨by rfl, ?_⟩) hHeld ?_
                  rotate_left
                  · intro w hSw
                    clear hSw
                    go_simp
                    try with_reducible rfl
                  try simp only [Act.put, List.setIfInBounds_toArray, List.set_cons_zero, List.set_cons_succ]
                  refine wpAnyH_take (i := 41) (oi := { dst := some 155, op := Op.move (Operand.tmp 12), type := 22, pos := "outright.go:109", after := #[{ on := 40, ground := Ground.guard }], guard := some (40, false) }) (v := ?_) rfl (by kernel_rfl) (by kernel_rfl) (by kernel_rfl) (fun _ _ _ h => h) (Or.inl ⟨by rfl, ?_⟩) hHeld ?_
                  rotate_left
                  · intro w hSw
                    clear hSw
                    go_simp
                    try with_reducible rfl
                  try simp only [Act.put, List.setIfInBounds_toArray, List.set_cons_zero, List.set_cons_succ]
                  refine wpAnyH_take (i := 42) (oi := { dst := some 156, op := Op.move (Operand.tmp 13), type := 3, pos := "outright.go:109", after := #[{ on := 40, ground := Ground.guard }], guard := some (40, false) }) (v := ?_) rfl (by kernel_rfl) (by kernel_rfl) (by kernel_rfl) (fun _ _ _ h => h) (Or.inl ⟨by rfl, ?_⟩) hHeld ?_
                  rotate_left
                  · intro w hSw
                    clear hSw
                    go_simp
                    try with_reducible rfl
                  try simp only [Act.put, List.setIfInBounds_toArray, List.set_cons_zero, List.set_cons_succ]
                  refine wpAnyH_take (i := 43) (oi := { dst := some 157, op := Op.binOp BinOp.sub 3 (Operand.tmp 156) (Operand.const (Value.int IntKind.i64 1)) 3, type := 3, pos := "outright.go:109", after := #[{ on := 42, ground := Ground.data }, { on := 40, ground := Ground.guard }], guard := some (40, false) }) (v := ?_) rfl (by kernel_rfl) (by kernel_rfl) (by kernel_rfl) (fun _ _ _ h => h) (Or.inl ⟨by rfl, ?_⟩) hHeld ?_
                  rotate_left
                  · intro w hSw
                    clear hSw
                    go_simp
                    try with_reducible rfl
                  try simp only [Act.put, List.setIfInBounds_toArray, List.set_cons_zero, List.set_cons_succ]
                  refine wpAnyH_take (i := 44) (oi := { dst := some 158, op := Op.indexAddr 22 (Operand.tmp 155) (Operand.tmp 157), type := 0, pos := "outright.go:109", after := #[{ on := 41, ground := Ground.data }, { on := 43, ground := Ground.data }, { on := 40, ground := Ground.guard }], guard := some (40, false) }) (v := ?_) rfl (by kernel_rfl) (by kernel_rfl) (by kernel_rfl) (fun _ _ _ h => h) (Or.inl ⟨by rfl, ?_⟩) hHeld ?_
                  rotate_left
                  · intro w hSw
                    clear hSw
                    go_simp
                    try with_reducible rfl
                  try simp only [Act.put, List.setIfInBounds_toArray, List.set_cons_zero, List.set_cons_succ]
                  refine wpAnyH_take (i := 45) (oi := { dst := some 159, op := Op.fieldAddr 32 (Operand.tmp 158) 0, type := 0, pos := "outright.go:109", after := #[{ on := 44, ground := Ground.data }, { on := 40, ground := Ground.guard }], guard := some (40, false) }) (v := ?_) rfl (by kernel_rfl) (by kernel_rfl) (by kernel_rfl) (fun _ _ _ h => h) (Or.inl ⟨by rfl, ?_⟩) hHeld ?_
                  rotate_left
                  · intro w hSw
                    clear hSw
                    go_simp
                    try with_reducible rfl
                  try simp only [Act.put, List.setIfInBounds_toArray, List.set_cons_zero, List.set_cons_succ]
                  refine wpAnyH_take (i := 46) (oi := { dst := some 160, op := Op.load 29 (Operand.tmp 159), type := 29, pos := "outright.go:109", after := #[{ on := 45, ground := Ground.data }, { on := 40, ground := Ground.guard }], guard := some (40, false) }) (v := ?_) rfl (by kernel_rfl) (by kernel_rfl) (by kernel_rfl) (fun _ _ _ h => h) (Or.inl ⟨by rfl, ?_⟩) hHeld ?_
                  rotate_left
                  · intro w hSw
                    obtain ⟨p0, p10, p28⟩ := HP3.out w hSw
                    obtain ⟨c0, c1, c2, c3, c4, c5⟩ := HROWI.out w (HBY5.out.trans (hSw.mono HBY5.out.size))
                    obtain ⟨d0, d1, d2, d3, d4, d5⟩ := HROWK.out w (HBY5.out.trans (hSw.mono HBY5.out.size))
                    go_simp
                    try with_reducible rfl
                  try simp only [Act.put, List.setIfInBounds_toArray, List.set_cons_zero, List.set_cons_succ]
                  refine wpAnyH_take (i := 47) (oi := { dst := some 161, op := Op.move (Operand.tmp 12), type := 22, pos := "outright.go:109", after := #[{ on := 40, ground := Ground.guard }], guard := some (40, false) }) (v := ?_) rfl (by kernel_rfl) (by kernel_rfl) (by kernel_rfl) (fun _ _ _ h => h) (Or.inl ⟨by rfl, ?_⟩) hHeld ?_
                  rotate_left
                  · intro w hSw
                    clear hSw
                    go_simp
                    try with_reducible rfl
                  try simp only [Act.put, List.setIfInBounds_toArray, List.set_cons_zero, List.set_cons_succ]
                  refine wpAnyH_take (i := 48) (oi := { dst := some 162, op := Op.move (Operand.tmp 13), type := 3, pos := "outright.go:109", after := #[{ on := 40, ground := Ground.guard }], guard := some (40, false) }) (v := ?_) rfl (by kernel_rfl) (by kernel_rfl) (by kernel_rfl) (fun _ _ _ h => h) (Or.inl ⟨by rfl, ?_⟩) hHeld ?_
                  rotate_left
                  · intro w hSw
                    clear hSw
                    go_simp
                    try with_reducible rfl
                  try simp only [Act.put, List.setIfInBounds_toArray, List.set_cons_zero, List.set_cons_succ]
                  refine wpAnyH_take (i := 49) (oi := { dst := some 163, op := Op.indexAddr 22 (Operand.tmp 161) (Operand.tmp 162), type := 0, pos := "outright.go:109", after := #[{ on := 47, ground := Ground.data }, { on := 48, ground := Ground.data }, { on := 40, ground := Ground.guard }], guard := some (40, false) }) (v := ?_) rfl (by kernel_rfl) (by kernel_rfl) (by kernel_rfl) (fun _ _ _ h => h) (Or.inl ⟨by rfl, ?_⟩) hHeld ?_
                  rotate_left
                  · intro w hSw
                    clear hSw
                    go_simp
                    try with_reducible rfl
                  try simp only [Act.put, List.setIfInBounds_toArray, List.set_cons_zero, List.set_cons_succ]
                  refine wpAnyH_take (i := 50) (oi := { dst := some 164, op := Op.fieldAddr 32 (Operand.tmp 163) 0, type := 0, pos := "outright.go:109", after := #[{ on := 49, ground := Ground.data }, { on := 40, ground := Ground.guard }], guard := some (40, false) }) (v := ?_) rfl (by kernel_rfl) (by kernel_rfl) (by kernel_rfl) (fun _ _ _ h => h) (Or.inl ⟨by rfl, ?_⟩) hHeld ?_
                  rotate_left
                  · intro w hSw
                    clear hSw
                    go_simp
                    try with_reducible rfl
                  try simp only [Act.put, List.setIfInBounds_toArray, List.set_cons_zero, List.set_cons_succ]
                  refine wpAnyH_take (i := 51) (oi := { dst := some 165, op := Op.load 29 (Operand.tmp 164), type := 29, pos := "outright.go:109", after := #[{ on := 50, ground := Ground.data }, { on := 40, ground := Ground.guard }], guard := some (40, false) }) (v := ?_) rfl (by kernel_rfl) (by kernel_rfl) (by kernel_rfl) (fun _ _ _ h => h) (Or.inl ⟨by rfl, ?_⟩) hHeld ?_
                  rotate_left
                  · intro w hSw
                    obtain ⟨p0, p10, p28⟩ := HP3.out w hSw
                    obtain ⟨c0, c1, c2, c3, c4, c5⟩ := HROWI.out w (HBY5.out.trans (hSw.mono HBY5.out.size))
                    obtain ⟨d0, d1, d2, d3, d4, d5⟩ := HROWK.out w (HBY5.out.trans (hSw.mono HBY5.out.size))
                    go_simp
                    try with_reducible rfl
                  try simp only [Act.put, List.setIfInBounds_toArray, List.set_cons_zero, List.set_cons_succ]
                  refine wpAnyH_take (i := 52) (oi := { dst := some 166, op := Op.binOp BinOp.eql 29 (Operand.tmp 160) (Operand.tmp 165) 29, type := 4, pos := "outright.go:109", after := #[{ on := 46, ground := Ground.data }, { on := 51, ground := Ground.data }, { on := 40, ground := Ground.guard }], guard := some (40, false) }) (v := .bool false) rfl (by kernel_rfl) (by kernel_rfl) (by kernel_rfl) (fun _ _ _ h => h) (Or.inl ⟨by rfl, ?_⟩) hHeld ?_
                  · intro w hSw
                    clear hSw
                    go_simp
                    exact pk_no HPF.out
                  try simp only [Act.put, List.setIfInBounds_toArray, List.set_cons_zero, List.set_cons_succ]
                  refine wpAnyH_take (i := 53) (oi := { dst := some 167, op := Op.move (Operand.tmp 166), type := 4, pos := "outright.go:109", after := #[{ on := 52, ground := Ground.data }, { on := 40, ground := Ground.chain }, { on := 40, ground := Ground.guard }], guard := some (40, false) }) (v := ?_) rfl (by kernel_rfl) (by kernel_rfl) (by kernel_rfl) (fun _ _ _ h => h) (Or.inl ⟨by rfl, ?_⟩) hHeld ?_
                  rotate_left
                  · intro w hSw
                    clear hSw
                    go_simp
                    try with_reducible rfl
                  try simp only [Act.put, List.setIfInBounds_toArray, List.set_cons_zero, List.set_cons_succ]
                  refine wpAnyH_take (i := 54) (oi := { dst := some 168, op := Op.move (Operand.tmp 12), type := 22, pos := "outright.go:109", after := #[{ on := 53, ground := Ground.guard }], guard := some (53, true) }) (v := undef) rfl (by kernel_rfl) (by kernel_rfl) (by kernel_rfl) (fun _ _ _ h => h) (Or.inr ⟨by rfl, rfl⟩) hHeld ?_
                  try simp only [Act.put, List.setIfInBounds_toArray, List.set_cons_zero, List.set_cons_succ]
                  refine wpAnyH_take (i := 55) (oi := { dst := some 169, op := Op.move (Operand.tmp 13), type := 3, pos := "outright.go:109", after := #[{ on := 53, ground := Ground.guard }], guard := some (53, true) }) (v := undef) rfl (by kernel_rfl) (by kernel_rfl) (by kernel_rfl) (fun _ _ _ h => h) (Or.inr ⟨by rfl, rfl⟩) hHeld ?_
                  try simp only [Act.put, List.setIfInBounds_toArray, List.set_cons_zero, List.set_cons_succ]
                  refine wpAnyH_take (i := 56) (oi := { dst := some 170, op := Op.binOp BinOp.sub 3 (Operand.tmp 169) (Operand.const (Value.int IntKind.i64 1)) 3, type := 3, pos := "outright.go:109", after := #[{ on := 55, ground := Ground.data }, { on := 53, ground := Ground.guard }], guard := some (53, true) }) (v := undef) rfl (by kernel_rfl) (by kernel_rfl) (by kernel_rfl) (fun _ _ _ h => h) (Or.inr ⟨by rfl, rfl⟩) hHeld ?_
                  try simp only [Act.put, List.setIfInBounds_toArray, List.set_cons_zero, List.set_cons_succ]
                  refine wpAnyH_take (i := 57) (oi := { dst := some 171, op := Op.indexAddr 22 (Operand.tmp 168) (Operand.tmp 170), type := 0, pos := "outright.go:109", after := #[{ on := 54, ground := Ground.data }, { on := 56, ground := Ground.data }, { on := 53, ground := Ground.guard }], guard := some (53, true) }) (v := undef) rfl (by kernel_rfl) (by kernel_rfl) (by kernel_rfl) (fun _ _ _ h => h) (Or.inr ⟨by rfl, rfl⟩) hHeld ?_
                  try simp only [Act.put, List.setIfInBounds_toArray, List.set_cons_zero, List.set_cons_succ]
                  refine wpAnyH_take (i := 58) (oi := { dst := some 172, op := Op.fieldAddr 32 (Operand.tmp 171) 1, type := 0, pos := "outright.go:109", after := #[{ on := 57, ground := Ground.data }, { on := 53, ground := Ground.guard }], guard := some (53, true) }) (v := undef) rfl (by kernel_rfl) (by kernel_rfl) (by kernel_rfl) (fun _ _ _ h => h) (Or.inr ⟨by rfl, rfl⟩) hHeld ?_
                  try simp only [Act.put, List.setIfInBounds_toArray, List.set_cons_zero, List.set_cons_succ]
                  refine wpAnyH_take (i := 59) (oi := { dst := some 173, op := Op.load 30 (Operand.tmp 172), type := 30, pos := "outright.go:109", after := #[{ on := 58, ground := Ground.data }, { on := 53, ground := Ground.guard }], guard := some (53, true) }) (v := undef) rfl (by kernel_rfl) (by kernel_rfl) (by kernel_rfl) (fun _ _ _ h => h) (Or.inr ⟨by rfl, rfl⟩) hHeld ?_
                  try simp only [Act.put, List.setIfInBounds_toArray, List.set_cons_zero, List.set_cons_succ]
                  refine wpAnyH_take (i := 60) (oi := { dst := some 174, op := Op.move (Operand.tmp 12), type := 22, pos := "outright.go:109", after := #[{ on := 53, ground := Ground.guard }], guard := some (53, true) }) (v := undef) rfl (by kernel_rfl) (by kernel_rfl) (by kernel_rfl) (fun _ _ _ h => h) (Or.inr ⟨by rfl, rfl⟩) hHeld ?_
                  try simp only [Act.put, List.setIfInBounds_toArray, List.set_cons_zero, List.set_cons_succ]
                  refine wpAnyH_take (i := 61) (oi := { dst := some 175, op := Op.move (Operand.tmp 13), type := 3, pos := "outright.go:109", after := #[{ on := 53, ground := Ground.guard }], guard := some (53, true) }) (v := undef) rfl (by kernel_rfl) (by kernel_rfl) (by kernel_rfl) (fun _ _ _ h => h) (Or.inr ⟨by rfl, rfl⟩) hHeld ?_
                  try simp only [Act.put, List.setIfInBounds_toArray, List.set_cons_zero, List.set_cons_succ]
                  refine wpAnyH_take (i := 62) (oi := { dst := some 176, op := Op.indexAddr 22 (Operand.tmp 174) (Operand.tmp 175), type := 0, pos := "outright.go:109", after := #[{ on := 60, ground := Ground.data }, { on := 61, ground := Ground.data }, { on := 53, ground := Ground.guard }], guard := some (53, true) }) (v := undef) rfl (by kernel_rfl) (by kernel_rfl) (by kernel_rfl) (fun _ _ _ h => h) (Or.inr ⟨by rfl, rfl⟩) hHeld ?_
                  try simp only [Act.put, List.setIfInBounds_toArray, List.set_cons_zero, List.set_cons_succ]
                  refine wpAnyH_take (i := 63) (oi := { dst := some 177, op := Op.fieldAddr 32 (Operand.tmp 176) 1, type := 0, pos := "outright.go:109", after := #[{ on := 62, ground := Ground.data }, { on := 53, ground := Ground.guard }], guard := some (53, true) }) (v := undef) rfl (by kernel_rfl) (by kernel_rfl) (by kernel_rfl) (fun _ _ _ h => h) (Or.inr ⟨by rfl, rfl⟩) hHeld ?_
                  try simp only [Act.put, List.setIfInBounds_toArray, List.set_cons_zero, List.set_cons_succ]
                  refine wpAnyH_take (i := 64) (oi := { dst := some 178, op := Op.load 30 (Operand.tmp 177), type := 30, pos := "outright.go:109", after := #[{ on := 63, ground := Ground.data }, { on := 53, ground := Ground.guard }], guard := some (53, true) }) (v := undef) rfl (by kernel_rfl) (by kernel_rfl) (by kernel_rfl) (fun _ _ _ h => h) (Or.inr ⟨by rfl, rfl⟩) hHeld ?_
                  try simp only [Act.put, List.setIfInBounds_toArray, List.set_cons_zero, List.set_cons_succ]
                  refine wpAnyH_take (i := 65) (oi := { dst := some 179, op := Op.binOp BinOp.geq 30 (Operand.tmp 173) (Operand.tmp 178) 30, type := 4, pos := "outright.go:109", after := #[{ on := 59, ground := Ground.data }, { on := 64, ground := Ground.data }, { on := 53, ground := Ground.guard }], guard := some (53, true) }) (v := undef) rfl (by kernel_rfl) (by kernel_rfl) (by kernel_rfl) (fun _ _ _ h => h) (Or.inr ⟨by rfl, rfl⟩) hHeld ?_
                  try simp only [Act.put, List.setIfInBounds_toArray, List.set_cons_zero, List.set_cons_succ]
                  refine wpAnyH_take (i := 66) (oi := { dst := some 180, op := Op.pick (Operand.tmp 167) (Operand.tmp 179) (Operand.const (Value.bool false)), type := 4, pos := "outright.go:109", after := #[{ on := 53, ground := Ground.data }, { on := 65, ground := Ground.data }, { on := 40, ground := Ground.guard }], guard := some (40, false) }) (v := ?_) rfl (by kernel_rfl) (by kernel_rfl) (by kernel_rfl) (fun _ _ _ h => h) (Or.inl ⟨by rfl, ?_⟩) hHeld ?_
                  rotate_left
                  · intro w hSw
                    clear hSw
                    go_simp
                    try with_reducible rfl
                  try simp only [Act.put, List.setIfInBounds_toArray, List.set_cons_zero, List.set_cons_succ]
                  refine wpAnyH_take (i := 67) (oi := { dst := some 181, op := Op.pick (Operand.tmp 154) (Operand.const (Value.bool true)) (Operand.tmp 180), type := 4, pos := "outright.go:109", after := #[{ on := 40, ground := Ground.data }, { on := 66, ground := Ground.data }, { on := 26, ground := Ground.guard }], guard := some (26, true) }) (v := ?_) rfl (by kernel_rfl) (by kernel_rfl) (by kernel_rfl) (fun _ _ _ h => h) (Or.inl ⟨by rfl, ?_⟩) hHeld ?_
                  rotate_left
                  · intro w hSw
                    clear hSw
                    go_simp
                    try with_reducible rfl
                  try simp only [Act.put, List.setIfInBounds_toArray, List.set_cons_zero, List.set_cons_succ]
                  refine wpAnyH_take (i := 68) (oi := { dst := some 182, op := Op.pick (Operand.tmp 140) (Operand.tmp 181) (Operand.const (Value.bool false)), type := 4, pos := "outright.go:109", after := #[{ on := 26, ground := Ground.data }, { on := 67, ground := Ground.data }, { on := 23, ground := Ground.guard }], guard := some (23, false) }) (v := ?_) rfl (by kernel_rfl) (by kernel_rfl) (by kernel_rfl) (fun _ _ _ h => h) (Or.inl ⟨by rfl, ?_⟩) hHeld ?_
                  rotate_left
                  · intro w hSw
                    clear hSw
                    go_simp
                    try with_reducible rfl
                  try simp only [Act.put, List.setIfInBounds_toArray, List.set_cons_zero, List.set_cons_succ]
                  refine wpAnyH_take (i := 69) (oi := { dst := some 183, op := Op.pick (Operand.tmp 137) (Operand.const (Value.bool true)) (Operand.tmp 182), type := 4, pos := "outright.go:109", after := #[{ on := 23, ground := Ground.data }, { on := 68, ground := Ground.data }], guard := none }) (v := ?_) rfl (by kernel_rfl) (by kernel_rfl) (by kernel_rfl) (fun _ _ _ h => h) (Or.inl ⟨by rfl, ?_⟩) hHeld ?_
                  rotate_left
                  · intro w hSw
                    clear hSw
                    go_simp
                    try with_reducible rfl
                  try simp only [Act.put, List.setIfInBounds_toArray, List.set_cons_zero, List.set_cons_succ]
                  refine wpAnyH_done (by kernel_rfl) ?_ _
                  go_upto_region 22 with fail
                  refine rb_name fun Z8 hZ8 => ?_
                  have HB8 : Hid (Below Z.heap.size Z Z8) := HBY5.out.trans (Below.mono (by rw [hZ8]; exact hHeld) HBY5.out.size)
                  clear hZ8 hHeld
                  go_wp2_with fail
                  exact ⟨⟨n + 1, by go_num, by omega, HB8.out⟩, by simp [intOf]; omega⟩
            · have hnT : n = T.length := by omega
              subst hnT
              as_aux_lemma =>
              go_wp2_with fail
              go_loopw [18] (fun i wr => ∃ f : Nat, i = .int .i64 f ∧ 1 ≤ f ∧ f ≤ 6 ∧ Hid (Below Z.heap.size Z wr)) (fun i _ => 8 - (intOf i).toNat)
              case atStart => exact ⟨1, rfl, by omega, by omega, HBwq.out⟩
              case round =>
                clear HBwq HTP
                obtain ⟨wq2, hwq2⟩ : ∃ x, x = wr := ⟨_, rfl⟩
                subst hwq2
                obtain ⟨f, rfl, hf1, hf2, HBQ⟩ := hrel
                have HRQ := Lib.hid (HR5.out.below HBQ.out)
                by_cases hlt : f ≤ 5
                · as_aux_lemma =>
                  have HALL := Lib.hid (rall_any HRQ.out f)
                  go_wp2_with fail
                  refine HALL.out.mono ?_
                  rintro e w6 ⟨⟨ov, L, O2, rfl, hph, hord, hperm, hall⟩, hb6⟩
                  have HAP : Hid (AllP fam f M5 L) := all_of HLF.out HRQ.out.keys hperm hall
                  have HB6 : Hid (Below Z.heap.size Z w6) := HBQ.out.trans (hb6.mono HBQ.out.size)
                  have HPH : Hid (PhsAt w6 wq2.heap.size ov L) := hph
                  obtain ⟨AP, cP, rfl⟩ := OwnM.form hph.own
                  have HCT := Lib.hid (rcountM_any (HRB.out.below HB6.out) f)
                  have hll : L.length ≤ 100 := by
                    rw [HAP.out.len]
                    exact Nat.le_trans (List.length_filter_le ..) hm5l
                  clear hph hord hperm hall hb6 HALL HRQ
                  obtain ⟨Y6, hY6⟩ : ∃ x, x = w6 := ⟨_, rfl⟩
                  subst hY6
                  by_cases hfe : f = fam
                  · obtain ⟨tot, htot⟩ : ∃ q, q = L.length + T.length := ⟨_, rfl⟩
                    have hct : cntC M2 f = tot := by
                      rw [HCPM.out, htot, HAP.out.len, ← HTL.out, hfe, ← HLF.out.same]
                    rw [hct] at HCT
                    have hw1 : IntKind.i64.wrap ((L.length : Int) + (T.length : Int)) = (tot : Int) := by rw [IntWalk.i64_in _ (by omega)]; omega
                    have hmed : Hid (∀ t ∈ L, t.stale = false ∧ t.a.med = 2) := fun t ht => ⟨(HAP.out.at_ t ht).1, (HAP.out.at_ t ht).2 (by rw [hfe])⟩
                    subst hfe
                    clear hct htot HAP
                    go_wp2_with fail
                    refine HCT.out.mono ?_
                    rintro e w7 ⟨rfl, hb7⟩
                    have HB7 : Hid (Below Z.heap.size Z w7) := HB6.out.trans (hb7.mono HB6.out.size)
                    have HPH7 := Lib.hid (HPH.out.below hb7)
                    obtain ⟨Y7, hY7⟩ : ∃ x, x = w7 := ⟨_, rfl⟩
                    subst hY7
                    clear hb7 HPH HB6 HCT
                    go_wp2_with fail
                    go_loopw [20] (fun i wr => ∃ j : Nat, i = .int .i64 j ∧ j ≤ L.length ∧ Hid (Below Y7.heap.size Y7 wr)) (fun i _ => L.length + 1 - (intOf i).toNat)
                    case atStart => exact ⟨0, rfl, by omega, Below.refl _ _⟩
                    case round =>
                      obtain ⟨wz, hwz⟩ : ∃ x, x = wr := ⟨_, rfl⟩
                      subst hwz
                      obtain ⟨j, rfl, hj, HBz⟩ := hrel
                      by_cases hjl : j < L.length
                      · obtain ⟨t, ht⟩ : ∃ x, L[j]? = some x := ⟨L[j]'hjl, List.getElem?_eq_getElem _⟩
                        obtain ⟨gp, cp, hv, hlc, hcm, hrow⟩ := HPH7.out.row ht
                        injection hv with e1 e2 e3
                        subst e1
                        subst e3
                        obtain ⟨p10, p28⟩ := hrow wz HBz.out
                        have p10b : wz.cell? ⟨gp, j * 29 + 10, none⟩ = some (.int .u32 (t.a.med : Nat)) := p10
                        obtain ⟨hst, hmd⟩ := hmed.out t (List.mem_of_getElem? ht)
                        rw [hmd] at p10 p10b
                        clear hmd
                        rw [hst] at p28
                        unfold maxLen at hcm
                        clear hrow ht hst e2
                        go_wp2_with fail
                        exact ⟨⟨j + 1, by go_num, by omega, HBz.out⟩, by simp [intOf]; omega⟩
                      · obtain rfl : j = L.length := by omega
                        have HB8 : Hid (Below Z.heap.size Z wz) := HB7.out.trans (HBz.out.mono HB7.out.size)
                        clear HB7 HBz HPH7
                        go_wp2_with fail
                        exact ⟨⟨f + 1, by go_num, by omega, by omega, HB8.out⟩, by simp [intOf]; omega⟩
                  · have hct : cntC M2 f = L.length := by
                      rw [HCPM.out, HAP.out.len, HLF.out.other f (by omega)]
                    rw [hct] at HCT
                    have hne1 : ((f : Int) != (fam : Int)) = true := bne_iff_ne.2 (by omega)
                    have hne2 : ((f : Int) == (fam : Int)) = false := beq_false_of_ne (by omega)
                    have hne3 : ¬ (f : Int) = (fam : Int) := by omega
                    have hmed : Hid (∀ t ∈ L, t.stale = false) := fun t ht => (HAP.out.at_ t ht).1
                    clear hct HAP
                    go_wp2_with fail
                    refine HCT.out.mono ?_
                    rintro e w7 ⟨rfl, hb7⟩
                    have HB7 : Hid (Below Z.heap.size Z w7) := HB6.out.trans (hb7.mono HB6.out.size)
                    have HPH7 := Lib.hid (HPH.out.below hb7)
                    obtain ⟨Y7, hY7⟩ : ∃ x, x = w7 := ⟨_, rfl⟩
                    subst hY7
                    clear hb7 HPH HB6 HCT
                    go_wp2_with fail
                    go_loopw [20] (fun i wr => ∃ j : Nat, i = .int .i64 j ∧ j ≤ L.length ∧ Hid (Below Y7.heap.size Y7 wr)) (fun i _ => L.length + 1 - (intOf i).toNat)
                    case atStart => exact ⟨0, rfl, by omega, Below.refl _ _⟩
                    case round =>
                      obtain ⟨wz, hwz⟩ : ∃ x, x = wr := ⟨_, rfl⟩
                      subst hwz
                      obtain ⟨j, rfl, hj, HBz⟩ := hrel
                      by_cases hjl : j < L.length
                      · obtain ⟨t, ht⟩ : ∃ x, L[j]? = some x := ⟨L[j]'hjl, List.getElem?_eq_getElem _⟩
                        obtain ⟨gp, cp, hv, hlc, hcm, hrow⟩ := HPH7.out.row ht
                        injection hv with e1 e2 e3
                        subst e1
                        subst e3
                        obtain ⟨p10, p28⟩ := hrow wz HBz.out
                        have p10b : wz.cell? ⟨gp, j * 29 + 10, none⟩ = some (.int .u32 (t.a.med : Nat)) := p10
                        have hst := hmed.out t (List.mem_of_getElem? ht)
                        rw [hst] at p28
                        unfold maxLen at hcm
                        clear hrow ht hst e2
                        go_wp2_with fail
                        exact ⟨⟨j + 1, by go_num, by omega, HBz.out⟩, by simp [intOf]; omega⟩
                      · obtain rfl : j = L.length := by omega
                        have HB8 : Hid (Below Z.heap.size Z wz) := HB7.out.trans (HBz.out.mono HB7.out.size)
                        clear HB7 HBz HPH7
                        go_wp2_with fail
                        exact ⟨⟨f + 1, by go_num, by omega, by omega, HB8.out⟩, by simp [intOf]; omega⟩
                · obtain rfl : f = 6 := by omega
                  as_aux_lemma =>
                  have HSW := Lib.hid (rsweep_any HRQ.out fam)
                  go_wp2_with fail
                  refine HSW.out.mono ?_
                  rintro e w6 ⟨⟨ov, T2, O2, rfl, hnl, hord, hperm, htk, _⟩, g6⟩
                  obtain ⟨AP, cP, rfl⟩ := OwnM.form hnl
                  have ht2 : T2.length = 0 := by
                    rw [htk.len, hperm.length_eq, HLF.out.none]
                    rfl
                  have HB6 : Hid (Below w.heap.size w w6) := g6.below (HB5.out.trans (HBQ.out.mono HB5.out.size)) (fun i hi => by rw [hi]; exact HM.out) (HB5.out.trans (HBQ.out.mono HB5.out.size)).size
                  rw [ht2]
                  clear hnl hord hperm htk g6 ht2
                  go_wp2_with fail
                  go_ret
                  exact ⟨by rfl, HB6.out⟩
set_option maxHeartbeats 4000000 in
set_option maxRecDepth 100000 in
theorem ribSweeps_lifted (os : Os) (started : os.Started) (H : Type) (enc : TypeId × Value → H) :
    ReturnsInHanded {} Try.checked os 5 .any (Rows.ribSweepsSpec.pre6 enc Try.prog Try.f5 Rows.ribSweepsRow.domain false) (Rows.ribSweepsSpec.post enc Try.prog Try.f5 false true false false) := by
  refine returnsInHanded_of_change_sized (C := Try.checked) own started (by kernel_rfl) Try.func5
    (ChangeSpec.witness6 (enc := enc) (C := Try.checked) false ⟨#[], #[.slice none 0 0, .slice none 0 0, .int .i64 0], []⟩ 8 (by kernel_rfl) (by kernel_rfl) (by kernel_rfl) (by kernel_rfl)) ?_
  intro W base args ds gs before hval0 hW hcnd hsz _
  have hval : ∀ (j : Nat) t v, Try.f5.params[j]? = some t → args[j]? = some v → Value.okWide Try.prog W .any base t v := hval0
  have hW' := hW
  obtain ⟨p, q, hA0, hV, rfl, hfz, hnd⟩ := hW
  have hA : DataW.TrodAll enc Try.prog W 0 (fun _ => true) true Try.f5.params.toList args.toList ds p := hA0
  rw [Try.params5] at hA hval
  obtain ⟨v0, vs0, d0, ds0, p0, q0, hargs, rfl, rfl, h0, r0⟩ := trodAll_cons hA
  obtain ⟨v1, vs1, d1, ds1, p1, q1, rfl, rfl, rfl, h1, r1⟩ := trodAll_cons r0
  obtain ⟨v2, vs2, d2, ds2, p2, q2, rfl, rfl, rfl, h2, r2⟩ := trodAll_cons r1
  obtain ⟨rfl, rfl, rfl⟩ := trodAll_nil r2
  obtain rfl : args = #[v0, v1, v2] := by cases args; simp_all
  obtain ⟨rfl, rfl⟩ := trodVars_none hV
  obtain ⟨A0, len0, cap0, rfl⟩ := okWide_slice Try.underlying22 (hval 0 22 v0 rfl rfl)
  obtain ⟨A1, len1, cap1, rfl⟩ := okWide_slice Try.underlying22 (hval 1 22 v1 rfl rfl)
  obtain ⟨fu0, hf0⟩ := h0
  obtain ⟨fu1, hf1⟩ := h1
  obtain ⟨A, l, cap, hv0, hok⟩ := open_nrs (v := .slice A0 len0 cap0) (x := (d0, p0)) hf0 (light_of hsz (j := 0) rfl rfl)
  injection hv0 with ea0 eb0 ec0
  subst ea0
  subst eb0
  subst ec0
  obtain ⟨B, k, capk, hv1, hokk⟩ := open_nrs (v := .slice A1 len1 cap1) (x := (d1, p1)) hf1 (light_of hsz (j := 1) rfl rfl)
  injection hv1 with ea1 eb1 ec1
  subst ea1
  subst eb1
  subst ec1
  obtain ⟨z, rfl, rfl, rfl, wf_z⟩ := open_int Try.underlying3 (hval 2 3 v2 rfl rfl) h2
  refine (sweeps_walk A0 A1 l k cap0 cap1 z W hok hokk).mono fun e W' ⟨he, bel⟩ => ?_
  exact ⟨_, he, law_post laidOut (by kernel_rfl) rfl (by kernel_rfl) Try.underlying4 hW' rfl bel⟩

theorem ribSweeps_holds : Rows.RibSweepsSaid :=
  OpenClaim.holds_of_wide 5 Try.f5 rfl rfl rfl rfl rfl rfl rfl ⟨rfl, rfl, rfl, rfl, rfl⟩ rfl rfl rfl rfl rfl (by kernel_rfl) Try.func5 (by kernel_rfl)
    (of_decide_eq_true (by kernel_rfl)) (by unfold Func.isWrapper; first | (rw [if_pos (by decide +kernel)]; kernel_rfl) | (rw [if_neg (by decide +kernel)]; exact ⟨rfl, rfl⟩))
    (fun os started H enc _ => ribSweeps_lifted os started H enc)
end Go.Proofs.Ytldpcliahfiloaa
