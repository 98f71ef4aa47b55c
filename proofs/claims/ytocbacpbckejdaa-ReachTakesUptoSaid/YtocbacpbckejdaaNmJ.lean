/-
 Contract of heraldref07.first. Conditions: sizes.
-/
import Derived.Test.YtocbacpbckejdaaNmG
import Derived.BigRegion
set_option linter.unusedVariables false
set_option linter.unusedSimpArgs false
namespace Go.Proofs.Ytocbacpbckejdaa
open Go.RowKit

set_option maxRecDepth 100000 in
set_option maxHeartbeats 16000000 in
theorem rfirst_LaI (t : ByteArray) (f : Int) (sz : Nat) (w : World) (f1 : 1 ≤ f) (f2 : f ≤ 5) (hlab : labB f = true) (hap : apB f = false) (hah : aheadV f = 24) (hsz : famSize f = sz) (hz : sz = 4 ∨ sz = 16) (hs : t.size ≤ 1100000) :
  Calls Try.prog 61 #[.string t, .int .i64 f, .bool true] w (RFPost w f true t) := by
 have HLB : Hid (∀ w, Calls Try.prog 66 #[.int .i64 f] w fun e w' => e = .returned (.bool true) ∧ w' = w) := fun w => hlab ▸ rlab_any f w f1 f2
 have HAB : Hid (∀ w, Calls Try.prog 69 #[.int .i64 f] w fun e w' => e = .returned (.bool false) ∧ w' = w) := fun w => hap ▸ rap_any f w f1 f2
 have HAH : Hid (∀ w, Calls Try.prog 68 #[.int .i64 f] w fun e w' => e = .returned (.int .i64 24) ∧ w' = w) := fun w => hah ▸ rahead_any f w f1 f2
 have HSI : Hid (∀ w, Calls Try.prog 47 #[.int .i64 f] w fun e w' => e = .returned (.int .i64 (sz : Nat)) ∧ w' = w) := fun w => hsz ▸ rsize_any f w
 obtain ⟨l, hl⟩ : ∃ l, l = t.data.toList := ⟨_, rfl⟩
 have htl : t = bts l := by rw [hl, bts_self]
 have hll : l.length = t.size := by rw [htl, bts_size]
 have haN : aN true = 4 := rfl
 have hlN : lN f = 3 := by unfold lN; rw [hlab]; rfl
 have hpN : pN f = 0 := by unfold pN; rw [hap]; rfl
 have HSH : Hid (t.size < 8 → decStep f true t = none) := fun h => by
  rw [htl]
  exact decStep_short (by rw [haN, hlN, hpN]; omega)
 have HLG : Hid (8 ≤ t.size → decStep f true t = decTail f (beVal (l.take 4)) (labOf true (beVal ((l.drop 5).take 3))) 0 ((beVal ((l.drop 4).take 1) : Int) - 24) (bts (l.drop 8)) (true && lBad (beVal ((l.drop 5).take 3)))) := fun h => by
  rw [htl]
  have h2 := decStep_long (f := f) (add := true) (l := l) (by rw [haN, hlN, hpN]; omega)
  rw [haN, hlN, hpN, hlab, hap, hah] at h2
  exact h2
 have HT : Hid (t = bts l) := htl
 have HTL : Hid (t.data.toList = l) := hl.symm
 have HSZ := Lib.hid hsz
 have hz1 : sz ≤ 16 := by omega
 have hz2 : 1 ≤ sz := by omega
 clear hlab hap hah hsz hz f1 f2 htl haN hlN hpN hl
 have HF0 : Hid (FrAt w ((w.alloc (.cells #[.int .i64 0, .int .u64 0, .string ⟨#[]⟩, .int .i64 0, .int .u32 0, .int .u32 0] 47)).alloc (.cells #[.int .i64 0, .int .u64 0, .string ⟨#[]⟩, .int .i64 0, .int .u32 0, .int .u32 0] 47)) w.heap.size (w.heap.size + 1) ⟨0, 0, ⟨#[]⟩, 0, 0, 0⟩) := FrAt.new w
 by_cases h4 : t.size < 4
 ·
  have HNO := Lib.hid (HSH.out (by omega))
  have h4i : (t.size : Int) < 4 := by omega
  clear h4
  go_enter Try.func61, Try.ntmps61
  have h0 := HF0.out.box
  dsimp only [Nl.cs] at h0
  have hc6 := CellsAt.c6 h0
  clear h0
  obtain ⟨x0, x1, x2, x3, x4, x5⟩ := hc6
  go_wp2_with (with_reducible show wpList _ _ _ (_ :: _) _ _; refine wpList_fr_res rfl (.tmp 6) (.tmp 19) rfl rfl rfl HF0 ?_)
  intro VR HRR HBR
  clear x0 x1 x2 x3 x4 x5
  have hrr := HRR.out
  dsimp only [Nl.cs] at hrr
  have hc6 := CellsAt.c6 hrr
  clear hrr
  obtain ⟨x0, x1, x2, x3, x4, x5⟩ := hc6
  go_wp2_with fail
  try simp only [Exit.inBlock, Exit.then]
  refine bodyPost_ret (v := .tuple #[.agg #[.int .i64 0, .int .u64 0, .string ⟨#[]⟩, .int .i64 0, .int .u32 0, .int .u32 0], .int .i64 0]) (by simp [results, Try.results61, go_sem, x0, x1, x2, x3, x4, x5]) rfl ?_
  exact RFPost.no HNO.out ⟨0, 0, ⟨#[]⟩, 0, 0, 0⟩ rfl HBR.out
 ·
  have h4i : ¬ (t.size : Int) < 4 := by omega
  obtain ⟨idv, hidv⟩ : ∃ idv, idv = beVal (l.take 4) := ⟨_, rfl⟩
  have hidl : idv < 4294967296 := by
   rw [hidv]
   exact beVal_lt _ 4 (by rw [List.length_take]; omega)
  have HID := Lib.hid hidv
  have HNU : Hid (∀ w, Calls Try.prog 72 #[.string t] w fun e w' => e = .returned (.int .u32 (idv : Nat)) ∧ Below w.heap.size w w') := fun w => by
   rw [hidv, ← HTL.out]
   exact rnumber5_any t w (by omega) (by omega)
  clear hidv
  go_enter Try.func61, Try.ntmps61
  go_wp2_with fail
  generalize (w.alloc (.cells #[.int .i64 0, .int .u64 0, .string ⟨#[]⟩, .int .i64 0, .int .u32 0, .int .u32 0] 47)).alloc (.cells #[.int .i64 0, .int .u64 0, .string ⟨#[]⟩, .int .i64 0, .int .u32 0, .int .u32 0] 47) = V0 at HF0 ⊢
  refine (HNU.out _).mono ?_
  rintro e V1 ⟨rfl, hb⟩
  have HF1 := Lib.hid (HF0.out.below hb)
  clear hb HF0
  have HE : Hid ((Nl.cs ⟨0, 0, ⟨#[]⟩, 0, 0, 0⟩).toArray.setIfInBounds 4 (.int .u32 (idv : Nat)) = (Nl.cs ⟨0, 0, ⟨#[]⟩, 0, (idv : Nat), 0⟩).toArray) := rfl
  go_wp2_with (with_reducible show wpList _ _ _ (_ :: _) _ _; refine wpList_fr_set rfl 45 (.tmp 22) (.tmp 21) rfl 4 rfl (.int .u32 (idv : Nat)) rfl (by kernel_rfl) HF1 ⟨0, 0, ⟨#[]⟩, 0, (idv : Nat), 0⟩ HE (by omega) rfl ?_)
  intro V2 HF2 HGW
  clear HE HF1 HGW
  by_cases hA : t.size ≤ 4
  ·
   have HNO := Lib.hid (HSH.out (by omega))
   have hAi : (t.size : Int) ≤ 4 := by omega
   clear hA
   have hbx := HF2.out.box
   dsimp only [Nl.cs] at hbx
   have hc6 := CellsAt.c6 hbx
   clear hbx
   obtain ⟨x0, x1, x2, x3, x4, x5⟩ := hc6
   go_wp2_with (with_reducible show wpList _ _ _ (_ :: _) _ _; refine wpList_fr_res rfl (.tmp 6) (.tmp 27) rfl rfl rfl HF2 ?_)
   intro VR HRR HBR
   clear x0 x1 x2 x3 x4 x5
   have hrr := HRR.out
   dsimp only [Nl.cs] at hrr
   have hc6 := CellsAt.c6 hrr
   clear hrr
   obtain ⟨x0, x1, x2, x3, x4, x5⟩ := hc6
   go_wp2_with fail
   try simp only [Exit.inBlock, Exit.then]
   refine bodyPost_ret (v := .tuple #[.agg #[.int .i64 0, .int .u64 0, .string ⟨#[]⟩, .int .i64 0, .int .u32 (idv : Nat), .int .u32 0], .int .i64 0]) (by simp [results, Try.results61, go_sem, x0, x1, x2, x3, x4, x5]) rfl ?_
   exact RFPost.no HNO.out ⟨0, 0, ⟨#[]⟩, 0, (idv : Nat), 0⟩ rfl HBR.out
  ·
   have hAi : ¬ (t.size : Int) ≤ 4 := by omega
   obtain ⟨x, hx⟩ : ∃ x, l[4]? = some x := ⟨l[4], List.getElem?_eq_getElem (by omega)⟩
   have iA : ∀ w, (Instr.index 9 (.string t) (.int .i64 4)).run Try.prog w = .ok (.int .u8 (x.toNat : Nat)) w := fun w => run_index_str w t 4 x (by rw [HTL.out]; exact hx) rfl
   have hxb : beVal ((l.drop 4).take 1) = x.toNat := by
    have e : (l.drop 4).take 1 = [x] := by
     rw [List.take_one, List.head?_drop, hx]
     rfl
    rw [e, beVal_one]
   have hxl := x.toNat_lt
   obtain ⟨bz, hbz⟩ : ∃ bz : Int, bz = ((x.toNat : Nat) : Int) - 24 := ⟨_, rfl⟩
   have HNB : Hid (bz < 0 ∨ 8 * (sz : Int) < bz ∨ (t.size : Int) < 8 + (bz + 7) / 8 → decStep f true t = none) := fun h => by
    by_cases hlen : t.size < 8
    ·
     exact HSH.out hlen
    ·
     rw [HLG.out (by omega), hxb, ← hbz]
     by_cases q1 : bz < 0
     ·
      exact tail_neg q1
     ·
      by_cases q2 : 8 * (sz : Int) < bz
      ·
       exact tail_big (by rw [HSZ.out]; exact q2)
      ·
       refine tail_short ?_
       rw [bts_size, List.length_drop]
       omega
   have HBZ := Lib.hid hbz
   have HXB := Lib.hid hxb
   clear hA hx hxb hbz
   go_wp2_with fail
   refine wp_region_held_drew (S := fun w' => Below V2.heap.size V2 w') (by kernel_rfl) (below_drewN (Below.refl _ _) 1) (fun hHeld => ?_)
   refine wpAnyH_take (i := 0) (oi := fA0) (v := ?_) rfl (by kernel_rfl) (by kernel_rfl) (by kernel_rfl) (fun _ _ _ h => h) (Or.inl ⟨by rfl, ?_⟩) hHeld ?_
   rotate_left
   ·
    intro w hSw
    clear hSw
    try dsimp only [fA0]
    go_simp
    try with_reducible rfl
   try simp only [fA0, Act.put, sA, sZ, sS]
   refine wpAnyH_take (i := 1) (oi := fA1) (v := ?_) rfl (by kernel_rfl) (by kernel_rfl) (by kernel_rfl) (fun _ _ _ h => h) (Or.inl ⟨by rfl, ?_⟩) hHeld ?_
   rotate_left
   ·
    intro w hSw
    clear hSw
    try dsimp only [fA1]
    go_simp
    try with_reducible rfl
   try simp only [fA1, Act.put, sA, sZ, sS]
   refine wpAnyH_take (i := 2) (oi := fA2) (v := .int .u8 (x.toNat : Nat)) rfl (by kernel_rfl) (by kernel_rfl) (by kernel_rfl) (fun _ _ _ h => h) (Or.inl ⟨by rfl, ?_⟩) hHeld ?_
   ·
    intro w hSw
    clear hSw
    try dsimp only [fA2]
    go_simp
    try rfl
   try simp only [fA2, Act.put, sA, sZ, sS]
   refine wpAnyH_take (i := 3) (oi := fA3) (v := .int .i64 (x.toNat : Nat)) rfl (by kernel_rfl) (by kernel_rfl) (by kernel_rfl) (fun _ _ _ h => h) (Or.inl ⟨by rfl, ?_⟩) hHeld ?_
   ·
    intro w hSw
    clear hSw
    try dsimp only [fA3]
    go_simp
    try first | rfl | exact IntWalk.i64_in _ (by omega)
   try simp only [fA3, Act.put, sA, sZ, sS]
   refine wpAnyH_take (i := 4) (oi := fA4) (v := ?_) rfl (by kernel_rfl) (by kernel_rfl) (by kernel_rfl) (fun _ _ _ h => h) (Or.inl ⟨by rfl, ?_⟩) hHeld ?_
   rotate_left
   ·
    intro w hSw
    clear hSw
    try dsimp only [fA4]
    go_simp
    try with_reducible rfl
   try simp only [fA4, Act.put, sA, sZ, sS]
   refine wpAnyH_ready (rs := [5]) (by as_aux_lemma => kernel_rfl) (by simp) ?_
   refine AllReadyH.cons (o := fA5) rfl (fun K hK => ?_) AllReadyH.nil
   dsimp only [fA5]
   go_simp
   refine (HAH.out _).mono ?_
   rintro e u1 ⟨rfl, hw⟩
   rw [hw]
   clear hw
   go_wp2_with fail
   refine hK.out _ _ hHeld (fun hHeld => ?_)
   clear hK K
   try simp only [Act.put, sA, sZ, sS]
   refine wpAnyH_take (i := 6) (oi := fA6) (v := .int .i64 bz) rfl (by kernel_rfl) (by kernel_rfl) (by kernel_rfl) (fun _ _ _ h => h) (Or.inl ⟨by rfl, ?_⟩) hHeld ?_
   ·
    intro w hSw
    clear hSw
    try dsimp only [fA6]
    go_simp
    have h := HBZ.out
    first | omega | (rw [IntWalk.i64_in _ (by omega)]; omega)
   try simp only [fA6, Act.put, sA, sZ, sS]
   refine wpAnyH_take (i := 7) (oi := fA7) (v := ?_) rfl (by kernel_rfl) (by kernel_rfl) (by kernel_rfl) (fun _ _ _ h => h) (Or.inl ⟨by rfl, ?_⟩) hHeld ?_
   rotate_left
   ·
    intro w hSw
    clear hSw
    try dsimp only [fA7]
    go_simp
    try with_reducible rfl
   try simp only [fA7, Act.put, sA, sZ, sS]
   refine wpAnyH_done (by as_aux_lemma => kernel_rfl) ?_ _
   clear hHeld iA
   have HF3 := Lib.hid (HF2.out.drewN 1)
   change Hid (FrAt w V2.drew _ _ _) at HF3
   clear HF2
   generalize V2.drew = V3 at HF3 ⊢
   go_wp2_with fail
   refine (HSI.out _).mono ?_
   rintro e w1 ⟨rfl, hw⟩
   rw [hw]
   clear hw
   by_cases h1 : bz < 0
   ·
    have HNO := Lib.hid (HNB.out (Or.inl h1))
    have hbx := HF3.out.box
    dsimp only [Nl.cs] at hbx
    have hc6 := CellsAt.c6 hbx
    clear hbx
    obtain ⟨x0, x1, x2, x3, x4, x5⟩ := hc6
    go_wp2_with (with_reducible show wpList _ _ _ (_ :: _) _ _; refine wpList_fr_res rfl (.tmp 6) (.tmp 61) rfl rfl rfl HF3 ?_)
    intro VR HRR HBR
    clear x0 x1 x2 x3 x4 x5
    have hrr := HRR.out
    dsimp only [Nl.cs] at hrr
    have hc6 := CellsAt.c6 hrr
    clear hrr
    obtain ⟨x0, x1, x2, x3, x4, x5⟩ := hc6
    go_wp2_with fail
    try simp only [Exit.inBlock, Exit.then]
    refine bodyPost_ret (v := .tuple #[.agg #[.int .i64 0, .int .u64 0, .string ⟨#[]⟩, .int .i64 0, .int .u32 (idv : Nat), .int .u32 0], .int .i64 0]) (by simp [results, Try.results61, go_sem, x0, x1, x2, x3, x4, x5]) rfl ?_
    exact RFPost.no HNO.out ⟨0, 0, ⟨#[]⟩, 0, (idv : Nat), 0⟩ rfl HBR.out
   ·
    have h1' : 0 ≤ bz := by omega
    by_cases h2 : 8 * (sz : Int) < bz
    ·
     have HNO := Lib.hid (HNB.out (Or.inr (Or.inl h2)))
     have hbx := HF3.out.box
     dsimp only [Nl.cs] at hbx
     have hc6 := CellsAt.c6 hbx
     clear hbx
     obtain ⟨x0, x1, x2, x3, x4, x5⟩ := hc6
     go_wp2_with (with_reducible show wpList _ _ _ (_ :: _) _ _; refine wpList_fr_res rfl (.tmp 6) (.tmp 61) rfl rfl rfl HF3 ?_)
     intro VR HRR HBR
     clear x0 x1 x2 x3 x4 x5
     have hrr := HRR.out
     dsimp only [Nl.cs] at hrr
     have hc6 := CellsAt.c6 hrr
     clear hrr
     obtain ⟨x0, x1, x2, x3, x4, x5⟩ := hc6
     go_wp2_with fail
     try simp only [Exit.inBlock, Exit.then]
     refine bodyPost_ret (v := .tuple #[.agg #[.int .i64 0, .int .u64 0, .string ⟨#[]⟩, .int .i64 0, .int .u32 (idv : Nat), .int .u32 0], .int .i64 0]) (by simp [results, Try.results61, go_sem, x0, x1, x2, x3, x4, x5]) rfl ?_
     exact RFPost.no HNO.out ⟨0, 0, ⟨#[]⟩, 0, (idv : Nat), 0⟩ rfl HBR.out
    ·
     obtain ⟨kb, hkb⟩ : ∃ kb : Nat, bz = (kb : Nat) := ⟨bz.toNat, by omega⟩
     subst hkb
     have hkb1 : kb ≤ 128 := by omega
     by_cases h3 : (t.size : Int) < 8 + ((kb : Nat) + 7) / 8
     ·
      have HNO := Lib.hid (HNB.out (Or.inr (Or.inr h3)))
      go_wp2_with fail
      refine (HAH.out _).mono ?_
      rintro e w1 ⟨rfl, hw⟩
      rw [hw]
      clear hw
      have hbx := HF3.out.box
      dsimp only [Nl.cs] at hbx
      have hc6 := CellsAt.c6 hbx
      clear hbx
      obtain ⟨x0, x1, x2, x3, x4, x5⟩ := hc6
      go_wp2_with (with_reducible show wpList _ _ _ (_ :: _) _ _; refine wpList_fr_res rfl (.tmp 6) (.tmp 61) rfl rfl rfl HF3 ?_)
      intro VR HRR HBR
      clear x0 x1 x2 x3 x4 x5
      have hrr := HRR.out
      dsimp only [Nl.cs] at hrr
      have hc6 := CellsAt.c6 hrr
      clear hrr
      obtain ⟨x0, x1, x2, x3, x4, x5⟩ := hc6
      go_wp2_with fail
      try simp only [Exit.inBlock, Exit.then]
      refine bodyPost_ret (v := .tuple #[.agg #[.int .i64 0, .int .u64 0, .string ⟨#[]⟩, .int .i64 0, .int .u32 (idv : Nat), .int .u32 0], .int .i64 0]) (by simp [results, Try.results61, go_sem, x0, x1, x2, x3, x4, x5]) rfl ?_
      exact RFPost.no HNO.out ⟨0, 0, ⟨#[]⟩, 0, (idv : Nat), 0⟩ rfl HBR.out
     ·
      go_wp2_with fail
      refine (HAH.out _).mono ?_
      rintro e w1 ⟨rfl, hw⟩
      rw [hw]
      clear hw
      go_wp2_with fail
      refine (HLB.out _).mono ?_
      rintro e w1 ⟨rfl, hw⟩
      rw [hw]
      clear hw
      have hlen : 8 + (kb + 7) / 8 ≤ t.size := by omega
      obtain ⟨y1, hy1⟩ : ∃ y, l[5]? = some y := ⟨l[5], List.getElem?_eq_getElem (by omega)⟩
      obtain ⟨y2, hy2⟩ : ∃ y, l[6]? = some y := ⟨l[6], List.getElem?_eq_getElem (by omega)⟩
      obtain ⟨y3, hy3⟩ : ∃ y, l[7]? = some y := ⟨l[7], List.getElem?_eq_getElem (by omega)⟩
      have j1 : ∀ w, (Instr.index 9 (.string t) (.int .i64 5)).run Try.prog w = .ok (.int .u8 (y1.toNat : Nat)) w := fun w => run_index_str w t 5 y1 (by rw [HTL.out]; exact hy1) rfl
      have j2 : ∀ w, (Instr.index 9 (.string t) (.int .i64 6)).run Try.prog w = .ok (.int .u8 (y2.toNat : Nat)) w := fun w => run_index_str w t 6 y2 (by rw [HTL.out]; exact hy2) rfl
      have j3 : ∀ w, (Instr.index 9 (.string t) (.int .i64 7)).run Try.prog w = .ok (.int .u8 (y3.toNat : Nat)) w := fun w => run_index_str w t 7 y3 (by rw [HTL.out]; exact hy3) rfl
      have n1 := y1.toNat_lt
      have n2 := y2.toNat_lt
      have n3 := y3.toNat_lt
      obtain ⟨VL, hVL⟩ : ∃ VL : Nat, VL = y1.toNat * 65536 + y2.toNat * 256 + y3.toNat := ⟨_, rfl⟩
      have HOL : Hid (bits .or .u32 (bits .or .u32 ((y1.toNat : Int) * 65536) ((y2.toNat : Int) * 256)) (y3.toNat : Int) = (VL : Int)) := by
       show _ = _
       rw [hVL]
       exact or3b y1 y2 y3
      have HVL : Hid (beVal ((l.drop 5).take 3) = VL) := by
       show _ = _
       have e : (l.drop 5).take 3 = [y1, y2, y3] := three_at hy1 hy2 hy3
       rw [e, hVL]
       show ((0 * 256 + y1.toNat) * 256 + y2.toNat) * 256 + y3.toNat = _
       omega
      have hVl : VL < 16777216 := by omega
      clear hVL hy1 hy2 hy3
      go_wp2_with fail
      refine wp_region_held_drew (S := fun w' => Below V3.heap.size V3 w') (by kernel_rfl) (below_drewN (Below.refl _ _) 1) (fun hHeld => ?_)
      refine wpAnyH_take (i := 0) (oi := fB0) (v := ?_) rfl (by kernel_rfl) (by kernel_rfl) (by kernel_rfl) (fun _ _ _ h => h) (Or.inl ⟨by rfl, ?_⟩) hHeld ?_
      rotate_left
      ·
       intro w hSw
       clear hSw
       try dsimp only [fB0]
       go_simp
       try with_reducible rfl
      try simp only [fB0, Act.put, sA, sZ, sS]
      refine wpAnyH_take (i := 1) (oi := fB1) (v := ?_) rfl (by kernel_rfl) (by kernel_rfl) (by kernel_rfl) (fun _ _ _ h => h) (Or.inl ⟨by rfl, ?_⟩) hHeld ?_
      rotate_left
      ·
       intro w hSw
       clear hSw
       try dsimp only [fB1]
       go_simp
       try with_reducible rfl
      try simp only [fB1, Act.put, sA, sZ, sS]
      refine wpAnyH_take (i := 2) (oi := fB2) (v := .int .u8 (y1.toNat : Nat)) rfl (by kernel_rfl) (by kernel_rfl) (by kernel_rfl) (fun _ _ _ h => h) (Or.inl ⟨by rfl, ?_⟩) hHeld ?_
      ·
       intro w hSw
       clear hSw
       try dsimp only [fB2]
       go_simp
       try rfl
      try simp only [fB2, Act.put, sA, sZ, sS]
      refine wpAnyH_take (i := 3) (oi := fB3) (v := .int .u32 (y1.toNat : Nat)) rfl (by kernel_rfl) (by kernel_rfl) (by kernel_rfl) (fun _ _ _ h => h) (Or.inl ⟨by rfl, ?_⟩) hHeld ?_
      ·
       intro w hSw
       clear hSw
       try dsimp only [fB3]
       go_simp
       try first | rfl | exact IntWalk.u32_in _ (by omega)
      try simp only [fB3, Act.put, sA, sZ, sS]
      refine wpAnyH_take (i := 4) (oi := fB4) (v := .int .u32 ((y1.toNat : Int) * 65536)) rfl (by kernel_rfl) (by kernel_rfl) (by kernel_rfl) (fun _ _ _ h => h) (Or.inl ⟨by rfl, ?_⟩) hHeld ?_
      ·
       intro w hSw
       clear hSw
       try dsimp only [fB4]
       go_simp
       try first | rfl | exact IntWalk.u32_in _ (by omega)
      try simp only [fB4, Act.put, sA, sZ, sS]
      refine wpAnyH_take (i := 5) (oi := fB5) (v := ?_) rfl (by kernel_rfl) (by kernel_rfl) (by kernel_rfl) (fun _ _ _ h => h) (Or.inl ⟨by rfl, ?_⟩) hHeld ?_
      rotate_left
      ·
       intro w hSw
       clear hSw
       try dsimp only [fB5]
       go_simp
       try with_reducible rfl
      try simp only [fB5, Act.put, sA, sZ, sS]
      refine wpAnyH_take (i := 6) (oi := fB6) (v := ?_) rfl (by kernel_rfl) (by kernel_rfl) (by kernel_rfl) (fun _ _ _ h => h) (Or.inl ⟨by rfl, ?_⟩) hHeld ?_
      rotate_left
      ·
       intro w hSw
       clear hSw
       try dsimp only [fB6]
       go_simp
       try with_reducible rfl
      try simp only [fB6, Act.put, sA, sZ, sS]
      refine wpAnyH_take (i := 7) (oi := fB7) (v := .int .i64 6) rfl (by kernel_rfl) (by kernel_rfl) (by kernel_rfl) (fun _ _ _ h => h) (Or.inl ⟨by rfl, ?_⟩) hHeld ?_
      ·
       intro w hSw
       clear hSw
       try dsimp only [fB7]
       go_simp
       try first | rfl | exact IntWalk.i64_in _ (by omega)
      try simp only [fB7, Act.put, sA, sZ, sS]
      refine wpAnyH_take (i := 8) (oi := fB8) (v := .int .u8 (y2.toNat : Nat)) rfl (by kernel_rfl) (by kernel_rfl) (by kernel_rfl) (fun _ _ _ h => h) (Or.inl ⟨by rfl, ?_⟩) hHeld ?_
      ·
       intro w hSw
       clear hSw
       try dsimp only [fB8]
       go_simp
       try rfl
      try simp only [fB8, Act.put, sA, sZ, sS]
      refine wpAnyH_take (i := 9) (oi := fB9) (v := .int .u32 (y2.toNat : Nat)) rfl (by kernel_rfl) (by kernel_rfl) (by kernel_rfl) (fun _ _ _ h => h) (Or.inl ⟨by rfl, ?_⟩) hHeld ?_
      ·
       intro w hSw
       clear hSw
       try dsimp only [fB9]
       go_simp
       try first | rfl | exact IntWalk.u32_in _ (by omega)
      try simp only [fB9, Act.put, sA, sZ, sS]
      refine wpAnyH_take (i := 10) (oi := fB10) (v := .int .u32 ((y2.toNat : Int) * 256)) rfl (by kernel_rfl) (by kernel_rfl) (by kernel_rfl) (fun _ _ _ h => h) (Or.inl ⟨by rfl, ?_⟩) hHeld ?_
      ·
       intro w hSw
       clear hSw
       try dsimp only [fB10]
       go_simp
       try first | rfl | exact IntWalk.u32_in _ (by omega)
      try simp only [fB10, Act.put, sA, sZ, sS]
      refine wpAnyH_take (i := 11) (oi := fB11) (v := .int .u32 (bits .or .u32 ((y1.toNat : Int) * 65536) ((y2.toNat : Int) * 256))) rfl (by kernel_rfl) (by kernel_rfl) (by kernel_rfl) (fun _ _ _ h => h) (Or.inl ⟨by rfl, ?_⟩) hHeld ?_
      ·
       intro w hSw
       clear hSw
       try dsimp only [fB11]
       go_simp
       try rfl
      try simp only [fB11, Act.put, sA, sZ, sS]
      refine wpAnyH_take (i := 12) (oi := fB12) (v := ?_) rfl (by kernel_rfl) (by kernel_rfl) (by kernel_rfl) (fun _ _ _ h => h) (Or.inl ⟨by rfl, ?_⟩) hHeld ?_
      rotate_left
      ·
       intro w hSw
       clear hSw
       try dsimp only [fB12]
       go_simp
       try with_reducible rfl
      try simp only [fB12, Act.put, sA, sZ, sS]
      refine wpAnyH_take (i := 13) (oi := fB13) (v := ?_) rfl (by kernel_rfl) (by kernel_rfl) (by kernel_rfl) (fun _ _ _ h => h) (Or.inl ⟨by rfl, ?_⟩) hHeld ?_
      rotate_left
      ·
       intro w hSw
       clear hSw
       try dsimp only [fB13]
       go_simp
       try with_reducible rfl
      try simp only [fB13, Act.put, sA, sZ, sS]
      refine wpAnyH_take (i := 14) (oi := fB14) (v := .int .i64 7) rfl (by kernel_rfl) (by kernel_rfl) (by kernel_rfl) (fun _ _ _ h => h) (Or.inl ⟨by rfl, ?_⟩) hHeld ?_
      ·
       intro w hSw
       clear hSw
       try dsimp only [fB14]
       go_simp
       try first | rfl | exact IntWalk.i64_in _ (by omega)
      try simp only [fB14, Act.put, sA, sZ, sS]
      refine wpAnyH_take (i := 15) (oi := fB15) (v := .int .u8 (y3.toNat : Nat)) rfl (by kernel_rfl) (by kernel_rfl) (by kernel_rfl) (fun _ _ _ h => h) (Or.inl ⟨by rfl, ?_⟩) hHeld ?_
      ·
       intro w hSw
       clear hSw
       try dsimp only [fB15]
       go_simp
       try rfl
      try simp only [fB15, Act.put, sA, sZ, sS]
      refine wpAnyH_take (i := 16) (oi := fB16) (v := .int .u32 (y3.toNat : Nat)) rfl (by kernel_rfl) (by kernel_rfl) (by kernel_rfl) (fun _ _ _ h => h) (Or.inl ⟨by rfl, ?_⟩) hHeld ?_
      ·
       intro w hSw
       clear hSw
       try dsimp only [fB16]
       go_simp
       try first | rfl | exact IntWalk.u32_in _ (by omega)
      try simp only [fB16, Act.put, sA, sZ, sS]
      refine wpAnyH_take (i := 17) (oi := fB17) (v := .int .u32 (VL : Nat)) rfl (by kernel_rfl) (by kernel_rfl) (by kernel_rfl) (fun _ _ _ h => h) (Or.inl ⟨by rfl, ?_⟩) hHeld ?_
      ·
       intro w hSw
       clear hSw
       try dsimp only [fB17]
       go_simp
       exact HOL.out
      try simp only [fB17, Act.put, sA, sZ, sS]
      refine wpAnyH_take (i := 18) (oi := fB18) (v := ?_) rfl (by kernel_rfl) (by kernel_rfl) (by kernel_rfl) (fun _ _ _ h => h) (Or.inl ⟨by rfl, ?_⟩) hHeld ?_
      rotate_left
      ·
       intro w hSw
       clear hSw
       try dsimp only [fB18]
       go_simp
       try with_reducible rfl
      try simp only [fB18, Act.put, sA, sZ, sS]
      refine wpAnyH_done (by as_aux_lemma => kernel_rfl) ?_ _
      clear hHeld j1 j2 j3 HOL n1 n2 n3
      have HF4 := Lib.hid (HF3.out.drewN 1)
      change Hid (FrAt w V3.drew _ _ _) at HF4
      clear HF3
      generalize V3.drew = V4 at HF4 ⊢
      have hand := u32_par VL hVl
      by_cases hpar : VL % 2 = 0
      ·
       have hp0 : (VL : Int) % 2 = 0 := by omega
       by_cases hg0 : VL = 8388608
       ·
        have hne : ((VL : Int) == 8388608) = true := by rw [beq_iff_eq]; omega
        have hnb : ((VL : Int) != 8388608) = false := by rw [bne, hne]; rfl
        have HLBF : Hid (lBad VL = false ∧ labOf true VL = 0) := by
         show _ ∧ _
         rw [hg0]
         exact ⟨rfl, rfl⟩
        rw [hp0] at hand
        clear hg0 hpar
        have HE : Hid ((Nl.cs ⟨0, 0, ⟨#[]⟩, 0, (idv : Nat), 0⟩).toArray.setIfInBounds 0 (.int .i64 f) = (Nl.cs ⟨f, 0, ⟨#[]⟩, 0, (idv : Nat), 0⟩).toArray) := rfl
        go_wp2_with (with_reducible show wpList _ _ _ (_ :: _) _ _; refine wpList_fr_set rfl 3 (.tmp 99) (.tmp 97) rfl 0 rfl (.int .i64 f) rfl (by kernel_rfl) HF4 ⟨f, 0, ⟨#[]⟩, 0, (idv : Nat), 0⟩ HE (by omega) rfl ?_)
        intro V5 HF5 HGW
        clear HE HF4 HGW
        go_wp2_with fail
        refine (HAB.out _).mono ?_
        rintro e w1 ⟨rfl, hw⟩
        rw [hw]
        clear hw
        go_wp2_with (with_reducible show wpList _ _ _ (_ :: _) _ _; refine wpList_make_bytes rfl (.tmp 119) (.tmp 119) rfl sz rfl rfl (by omega) ?_)
        intro V6 HO6 HMB
        have hg6 : w.heap.size < V5.heap.size := HF5.out.res.lt
        have hg8 : w.heap.size + 1 < V5.heap.size := HF5.out.box.lt
        have HF6 := Lib.hid (HF5.out.below HMB.out)
        clear HF5 HMB
        generalize V5.heap.size = g at HO6 hg6 hg8 ⊢
        obtain ⟨told, HTO⟩ : ∃ told, Hid (told = (bts (l.drop 8)).extract 0 ((kb + 7) / 8)) := ⟨_, rfl⟩
        have hts : told.size = (kb + 7) / 8 := by
         rw [HTO.out, ByteArray.size_extract, bts_size, List.length_drop]
         omega
        have htz : told.size ≤ sz := by omega
        have HTQ : Hid (∀ q x, told.data.toList[q]? = some x → l[8 + q]? = some x) := fun q x h => by
         rw [HTO.out, bts_extract, bts_list, List.drop_zero, Nat.sub_zero, List.getElem?_take] at h
         split at h
         ·
          rwa [List.getElem?_drop] at h
         ·
          cases h
        have HTZ := Lib.hid htz
        go_wp2_with fail
        go_loopw [14] (fun i wr => ∃ j : Nat, i = .int .i64 j ∧ j ≤ kb ∧ Hid (FrAt w wr w.heap.size (w.heap.size + 1) ⟨f, 0, ⟨#[]⟩, 0, (idv : Nat), 0⟩) ∧ Hid (OwnM wr g 5 1 (.slice (some ⟨g, 0, none⟩) sz sz) sz (byteVals (mL sz told j)))) (fun i _ => kb + 1 - (intOf i).toNat)
        case atStart => exact ⟨0, rfl, Nat.zero_le _, HF6, by rw [mL_zero HTZ.out]; exact HO6⟩
        case round =>
         obtain ⟨j, rfl, hj, HFJ, HOJ⟩ := hrel
         clear HF6 HO6
         by_cases hlt : j < kb
         ·
          obtain ⟨q, hq⟩ : ∃ q, q = j / 8 := ⟨_, rfl⟩
          obtain ⟨r, hr⟩ : ∃ r, r = j % 8 := ⟨_, rfl⟩
          have hqt : q < told.size := by omega
          obtain ⟨x, hx⟩ : ∃ x, told.data.toList[q]? = some x := ⟨told.data.toList[q]'(by rw [Array.length_toList]; exact hqt), List.getElem?_eq_getElem _⟩
          have hqz : q < sz := by omega
          have hmat := mL_at (j := j) HTZ.out hqz hx
          have hmv : (j : Int) - 8 * (q : Nat) = (r : Nat) := by omega
          rw [hmv] at hmat
          obtain ⟨hc, hf⟩ := HOJ.out.at_ hqz (byteVals_at _ _ _ hmat)
          have hst := bit_step x r (by omega)
          have iQ : ∀ w, (Instr.index 9 (.string t) (.int .i64 (8 + (q : Nat)))).run Try.prog w = .ok (.int .u8 (x.toNat : Nat)) w := fun w => run_index_str w t (8 + q) x (by rw [HTL.out]; exact HTQ.out q x hx) (by omega)
          have HNX : Hid (mL sz told (j + 1) = (mL sz told j).set q (mval x ((r : Int) + 1))) := by
           show _ = _
           subst hq
           rw [mL_succ HTZ.out hqz hx]
           congr 2
           omega
          have hdq : (j : Int) / 8 = (q : Nat) := by omega
          have hmr : (j : Int) % 8 = (r : Nat) := by omega
          have hr8 : r < 8 := by omega
          have hxl := x.toNat_lt
          generalize hmm : mval x (r : Int) = m at hc hst
          generalize hmn : mval x ((r : Int) + 1) = m2 at hst HNX
          have HST := Lib.hid hst
          have hml := m.toNat_lt
          have HQZ := Lib.hid hqz
          clear hq hr hx hmat hmv hmm hmn hst
          go_wp2_with fail
          go_region
          go_wp2_with fail
          refine ⟨⟨j + 1, by go_num, by omega, (HFJ.out.high (g := g) (grown_setCell wr ⟨g, q, none⟩ _) (Nat.le_of_lt hg6) (Nat.ne_of_lt hg6) (Nat.ne_of_lt hg8)).drewN 1, ?_⟩, by simp [intOf]; omega⟩
          show OwnM _ _ _ _ _ _ _
          rw [HNX.out, ← byteVals_set, ← HST.out]
          exact (HOJ.out.store HQZ.out _).drew
         ·
          obtain rfl : j = kb := by omega
          have hstr := run_string_m (P := Try.prog) wr 52 9 5 _ _ _ (mL sz told j) Try.underlying52 Try.underlying5 Try.underlying9 HOJ.out
          rw [mL_end HTZ.out] at hstr
          generalize had : addrB sz (j : Int) told = ad at hstr
          have HADE := Lib.hid had
          clear had HOJ
          have HE : Hid ((Nl.cs ⟨f, 0, ⟨#[]⟩, 0, (idv : Nat), 0⟩).toArray.setIfInBounds 2 (.string ad) = (Nl.cs ⟨f, 0, ad, 0, (idv : Nat), 0⟩).toArray) := rfl
          go_wp2_with (with_reducible show wpList _ _ _ (_ :: _) _ _; refine wpList_fr_set rfl 9 (.tmp 150) (.tmp 148) rfl 2 rfl (.string ad) rfl (by kernel_rfl) HFJ ⟨f, 0, ad, 0, (idv : Nat), 0⟩ HE (by omega) rfl ?_)
          intro Y1 HY1 HGW
          clear HE HFJ HGW
          clear hstr
          have HE : Hid ((Nl.cs ⟨f, 0, ad, 0, (idv : Nat), 0⟩).toArray.setIfInBounds 3 (.int .i64 (j : Nat)) = (Nl.cs ⟨f, 0, ad, (j : Nat), (idv : Nat), 0⟩).toArray) := rfl
          go_wp2_with (with_reducible show wpList _ _ _ (_ :: _) _ _; refine wpList_fr_set rfl 3 (.tmp 153) (.tmp 151) rfl 3 rfl (.int .i64 (j : Nat)) rfl (by kernel_rfl) HY1 ⟨f, 0, ad, (j : Nat), (idv : Nat), 0⟩ HE (by omega) rfl ?_)
          intro Y2 HY2 HGW
          clear HE HY1 HGW
          have hbx := HY2.out.box
          dsimp only [Nl.cs] at hbx
          have hc6 := CellsAt.c6 hbx
          clear hbx
          obtain ⟨x0, x1, x2, x3, x4, x5⟩ := hc6
          go_wp2_with (with_reducible show wpList _ _ _ (_ :: _) _ _; refine wpList_fr_res rfl (.tmp 6) (.tmp 154) rfl rfl rfl HY2 ?_)
          intro VR HRR HBR
          clear x0 x1 x2 x3 x4 x5
          have hrr := HRR.out
          dsimp only [Nl.cs] at hrr
          have hc6 := CellsAt.c6 hrr
          clear hrr
          obtain ⟨x0, x1, x2, x3, x4, x5⟩ := hc6
          have HYES : Hid (decStep f true t = some (⟨f, 0, ad, (j : Nat), (idv : Nat), 0⟩, t.extract (8 + (j + 7) / 8) t.size)) := by
           show _ = _
           rw [HLG.out (by omega), HXB.out, ← HBZ.out, HVL.out, HLBF.out.1, HLBF.out.2, Bool.and_false, ← HID.out]
           show decTail f idv 0 0 _ _ false = _
           have h := tail_ok (f := f) (id := idv) (label := 0) (rd := 0) (bits := (j : Int)) (t4 := bts (l.drop 8)) (by omega) (by rw [HSZ.out]; omega) (by rw [bts_size, List.length_drop]; omega)
           rw [Int.toNat_natCast, ← HTO.out, HSZ.out, Int.toNat_natCast, HADE.out] at h
           rw [h]
           congr 2
           rw [HT.out, bts_extract, bts_extract, List.drop_drop, bts_size, bts_size, List.length_drop]
           congr 2
           omega
          have hk8 : ((j : Int) + 7) / 8 = (((j + 7) / 8 : Nat) : Int) := by omega
          go_wp2_with fail
          try simp only [Exit.inBlock, Exit.then]
          refine bodyPost_ret (v := .tuple #[.agg #[.int .i64 f, .int .u64 0, .string ad, .int .i64 (j : Nat), .int .u32 (idv : Nat), .int .u32 0], .int .i64 (8 + ((j : Int) + 7) / 8)]) (by simp [results, Try.results61, go_sem, x0, x1, x2, x3, x4, x5]) rfl ?_
          refine RFPost.yes HYES.out (by omega) (by omega) ?_ HBR.out
          refine ret2 rfl (val_int ?_)
          omega
       ·
        have hne : ((VL : Int) == 8388608) = false := beq_eq_false_iff_ne.2 (by omega)
        have hnb : ((VL : Int) != 8388608) = true := by rw [bne, hne]; rfl
        rw [hp0] at hand
        have HNO : Hid (decStep f true t = none) := by
         show _ = _
         rw [HLG.out (by omega), HVL.out, lBad_yes hpar hg0]
         exact tail_bad
        clear hpar hg0
        have hbx := HF4.out.box
        dsimp only [Nl.cs] at hbx
        have hc6 := CellsAt.c6 hbx
        clear hbx
        obtain ⟨x0, x1, x2, x3, x4, x5⟩ := hc6
        go_wp2_with (with_reducible show wpList _ _ _ (_ :: _) _ _; refine wpList_fr_res rfl (.tmp 6) (.tmp 89) rfl rfl rfl HF4 ?_)
        intro VR HRR HBR
        clear x0 x1 x2 x3 x4 x5
        have hrr := HRR.out
        dsimp only [Nl.cs] at hrr
        have hc6 := CellsAt.c6 hrr
        clear hrr
        obtain ⟨x0, x1, x2, x3, x4, x5⟩ := hc6
        go_wp2_with fail
        try simp only [Exit.inBlock, Exit.then]
        refine bodyPost_ret (v := .tuple #[.agg #[.int .i64 0, .int .u64 0, .string ⟨#[]⟩, .int .i64 0, .int .u32 (idv : Nat), .int .u32 0], .int .i64 0]) (by simp [results, Try.results61, go_sem, x0, x1, x2, x3, x4, x5]) rfl ?_
        exact RFPost.no HNO.out ⟨0, 0, ⟨#[]⟩, 0, (idv : Nat), 0⟩ rfl HBR.out
      ·
       have hp0 : (VL : Int) % 2 = 1 := by omega
       have hne : ((VL : Int) == 8388608) = false := beq_eq_false_iff_ne.2 (by omega)
       have hnb : ((VL : Int) != 8388608) = true := by rw [bne, hne]; rfl
       rw [hp0] at hand
       have HLBF : Hid (lBad VL = false ∧ labOf true VL = VL / 16) := by
        show _ ∧ _
        refine ⟨lBad_no hpar, ?_⟩
        unfold labOf
        rw [decide_eq_true (by omega)]
        rfl
       have hdv : (VL : Int) / 16 = ((VL / 16 : Nat) : Int) := by omega
       have hd16 : VL / 16 < 1048576 := by omega
       clear hpar
       obtain ⟨lb, hlb⟩ : ∃ lb : Nat, lb = VL / 16 := ⟨_, rfl⟩
       rw [← hlb] at hdv HLBF hd16
       clear hlb
       have HDV := Lib.hid hdv
       have HE : Hid ((Nl.cs ⟨0, 0, ⟨#[]⟩, 0, (idv : Nat), 0⟩).toArray.setIfInBounds 5 (.int .u32 (lb : Nat)) = (Nl.cs ⟨0, 0, ⟨#[]⟩, 0, (idv : Nat), (lb : Nat)⟩).toArray) := rfl
       go_wp2_with (with_reducible show wpList _ _ _ (_ :: _) _ _; refine wpList_fr_set rfl 45 (.tmp 94) (.tmp 93) rfl 5 rfl (.int .u32 (lb : Nat)) rfl (by kernel_rfl) HF4 ⟨0, 0, ⟨#[]⟩, 0, (idv : Nat), (lb : Nat)⟩ HE (by omega) rfl ?_)
       intro V5 HF5 HGW
       clear HE HF4 HGW
       have HE : Hid ((Nl.cs ⟨0, 0, ⟨#[]⟩, 0, (idv : Nat), (lb : Nat)⟩).toArray.setIfInBounds 0 (.int .i64 f) = (Nl.cs ⟨f, 0, ⟨#[]⟩, 0, (idv : Nat), (lb : Nat)⟩).toArray) := rfl
       go_wp2_with (with_reducible show wpList _ _ _ (_ :: _) _ _; refine wpList_fr_set rfl 3 (.tmp 99) (.tmp 97) rfl 0 rfl (.int .i64 f) rfl (by kernel_rfl) HF5 ⟨f, 0, ⟨#[]⟩, 0, (idv : Nat), (lb : Nat)⟩ HE (by omega) rfl ?_)
       intro V6 HF6 HGW
       clear HE HF5 HGW
       go_wp2_with fail
       refine (HAB.out _).mono ?_
       rintro e w1 ⟨rfl, hw⟩
       rw [hw]
       clear hw
       go_wp2_with (with_reducible show wpList _ _ _ (_ :: _) _ _; refine wpList_make_bytes rfl (.tmp 119) (.tmp 119) rfl sz rfl rfl (by omega) ?_)
       intro V7 HO7 HMB
       have hg6 : w.heap.size < V6.heap.size := HF6.out.res.lt
       have hg8 : w.heap.size + 1 < V6.heap.size := HF6.out.box.lt
       have HF7 := Lib.hid (HF6.out.below HMB.out)
       clear HF6 HMB
       generalize V6.heap.size = g at HO7 hg6 hg8 ⊢
       obtain ⟨told, HTO⟩ : ∃ told, Hid (told = (bts (l.drop 8)).extract 0 ((kb + 7) / 8)) := ⟨_, rfl⟩
       have hts : told.size = (kb + 7) / 8 := by
        rw [HTO.out, ByteArray.size_extract, bts_size, List.length_drop]
        omega
       have htz : told.size ≤ sz := by omega
       have HTQ : Hid (∀ q x, told.data.toList[q]? = some x → l[8 + q]? = some x) := fun q x h => by
        rw [HTO.out, bts_extract, bts_list, List.drop_zero, Nat.sub_zero, List.getElem?_take] at h
        split at h
        ·
         rwa [List.getElem?_drop] at h
        ·
         cases h
       have HTZ := Lib.hid htz
       go_wp2_with fail
       go_loopw [14] (fun i wr => ∃ j : Nat, i = .int .i64 j ∧ j ≤ kb ∧ Hid (FrAt w wr w.heap.size (w.heap.size + 1) ⟨f, 0, ⟨#[]⟩, 0, (idv : Nat), (lb : Nat)⟩) ∧ Hid (OwnM wr g 5 1 (.slice (some ⟨g, 0, none⟩) sz sz) sz (byteVals (mL sz told j)))) (fun i _ => kb + 1 - (intOf i).toNat)
       case atStart => exact ⟨0, rfl, Nat.zero_le _, HF7, by rw [mL_zero HTZ.out]; exact HO7⟩
       case round =>
        obtain ⟨j, rfl, hj, HFJ, HOJ⟩ := hrel
        clear HF7 HO7
        by_cases hlt : j < kb
        ·
         obtain ⟨q, hq⟩ : ∃ q, q = j / 8 := ⟨_, rfl⟩
         obtain ⟨r, hr⟩ : ∃ r, r = j % 8 := ⟨_, rfl⟩
         have hqt : q < told.size := by omega
         obtain ⟨x, hx⟩ : ∃ x, told.data.toList[q]? = some x := ⟨told.data.toList[q]'(by rw [Array.length_toList]; exact hqt), List.getElem?_eq_getElem _⟩
         have hqz : q < sz := by omega
         have hmat := mL_at (j := j) HTZ.out hqz hx
         have hmv : (j : Int) - 8 * (q : Nat) = (r : Nat) := by omega
         rw [hmv] at hmat
         obtain ⟨hc, hf⟩ := HOJ.out.at_ hqz (byteVals_at _ _ _ hmat)
         have hst := bit_step x r (by omega)
         have iQ : ∀ w, (Instr.index 9 (.string t) (.int .i64 (8 + (q : Nat)))).run Try.prog w = .ok (.int .u8 (x.toNat : Nat)) w := fun w => run_index_str w t (8 + q) x (by rw [HTL.out]; exact HTQ.out q x hx) (by omega)
         have HNX : Hid (mL sz told (j + 1) = (mL sz told j).set q (mval x ((r : Int) + 1))) := by
          show _ = _
          subst hq
          rw [mL_succ HTZ.out hqz hx]
          congr 2
          omega
         have hdq : (j : Int) / 8 = (q : Nat) := by omega
         have hmr : (j : Int) % 8 = (r : Nat) := by omega
         have hr8 : r < 8 := by omega
         have hxl := x.toNat_lt
         generalize hmm : mval x (r : Int) = m at hc hst
         generalize hmn : mval x ((r : Int) + 1) = m2 at hst HNX
         have HST := Lib.hid hst
         have hml := m.toNat_lt
         have HQZ := Lib.hid hqz
         clear hq hr hx hmat hmv hmm hmn hst
         go_wp2_with fail
         go_region
         go_wp2_with fail
         refine ⟨⟨j + 1, by go_num, by omega, (HFJ.out.high (g := g) (grown_setCell wr ⟨g, q, none⟩ _) (Nat.le_of_lt hg6) (Nat.ne_of_lt hg6) (Nat.ne_of_lt hg8)).drewN 1, ?_⟩, by simp [intOf]; omega⟩
         show OwnM _ _ _ _ _ _ _
         rw [HNX.out, ← byteVals_set, ← HST.out]
         exact (HOJ.out.store HQZ.out _).drew
        ·
         obtain rfl : j = kb := by omega
         have hstr := run_string_m (P := Try.prog) wr 52 9 5 _ _ _ (mL sz told j) Try.underlying52 Try.underlying5 Try.underlying9 HOJ.out
         rw [mL_end HTZ.out] at hstr
         generalize had : addrB sz (j : Int) told = ad at hstr
         have HADE := Lib.hid had
         clear had HOJ
         have HE : Hid ((Nl.cs ⟨f, 0, ⟨#[]⟩, 0, (idv : Nat), (lb : Nat)⟩).toArray.setIfInBounds 2 (.string ad) = (Nl.cs ⟨f, 0, ad, 0, (idv : Nat), (lb : Nat)⟩).toArray) := rfl
         go_wp2_with (with_reducible show wpList _ _ _ (_ :: _) _ _; refine wpList_fr_set rfl 9 (.tmp 150) (.tmp 148) rfl 2 rfl (.string ad) rfl (by kernel_rfl) HFJ ⟨f, 0, ad, 0, (idv : Nat), (lb : Nat)⟩ HE (by omega) rfl ?_)
         intro Y1 HY1 HGW
         clear HE HFJ HGW
         clear hstr
         have HE : Hid ((Nl.cs ⟨f, 0, ad, 0, (idv : Nat), (lb : Nat)⟩).toArray.setIfInBounds 3 (.int .i64 (j : Nat)) = (Nl.cs ⟨f, 0, ad, (j : Nat), (idv : Nat), (lb : Nat)⟩).toArray) := rfl
         go_wp2_with (with_reducible show wpList _ _ _ (_ :: _) _ _; refine wpList_fr_set rfl 3 (.tmp 153) (.tmp 151) rfl 3 rfl (.int .i64 (j : Nat)) rfl (by kernel_rfl) HY1 ⟨f, 0, ad, (j : Nat), (idv : Nat), (lb : Nat)⟩ HE (by omega) rfl ?_)
         intro Y2 HY2 HGW
         clear HE HY1 HGW
         have hbx := HY2.out.box
         dsimp only [Nl.cs] at hbx
         have hc6 := CellsAt.c6 hbx
         clear hbx
         obtain ⟨x0, x1, x2, x3, x4, x5⟩ := hc6
         go_wp2_with (with_reducible show wpList _ _ _ (_ :: _) _ _; refine wpList_fr_res rfl (.tmp 6) (.tmp 154) rfl rfl rfl HY2 ?_)
         intro VR HRR HBR
         clear x0 x1 x2 x3 x4 x5
         have hrr := HRR.out
         dsimp only [Nl.cs] at hrr
         have hc6 := CellsAt.c6 hrr
         clear hrr
         obtain ⟨x0, x1, x2, x3, x4, x5⟩ := hc6
         have HYES : Hid (decStep f true t = some (⟨f, 0, ad, (j : Nat), (idv : Nat), (lb : Nat)⟩, t.extract (8 + (j + 7) / 8) t.size)) := by
          show _ = _
          rw [HLG.out (by omega), HXB.out, ← HBZ.out, HVL.out, HLBF.out.1, HLBF.out.2, Bool.and_false, ← HID.out]
          show decTail f idv lb 0 _ _ false = _
          have h := tail_ok (f := f) (id := idv) (label := lb) (rd := 0) (bits := (j : Int)) (t4 := bts (l.drop 8)) (by omega) (by rw [HSZ.out]; omega) (by rw [bts_size, List.length_drop]; omega)
          rw [Int.toNat_natCast, ← HTO.out, HSZ.out, Int.toNat_natCast, HADE.out] at h
          rw [h]
          congr 2
          rw [HT.out, bts_extract, bts_extract, List.drop_drop, bts_size, bts_size, List.length_drop]
          congr 2
          omega
         have hk8 : ((j : Int) + 7) / 8 = (((j + 7) / 8 : Nat) : Int) := by omega
         go_wp2_with fail
         try simp only [Exit.inBlock, Exit.then]
         refine bodyPost_ret (v := .tuple #[.agg #[.int .i64 f, .int .u64 0, .string ad, .int .i64 (j : Nat), .int .u32 (idv : Nat), .int .u32 (lb : Nat)], .int .i64 (8 + ((j : Int) + 7) / 8)]) (by simp [results, Try.results61, go_sem, x0, x1, x2, x3, x4, x5]) rfl ?_
         refine RFPost.yes HYES.out (by omega) (by omega) ?_ HBR.out
         refine ret2 rfl (val_int ?_)
         omega
end Go.Proofs.Ytocbacpbckejdaa
