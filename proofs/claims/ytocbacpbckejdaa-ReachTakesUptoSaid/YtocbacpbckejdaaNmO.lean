/-
 Contract of heraldref08.Take. Conditions: sizes.
-/
import Derived.Test.YtocbacpbckejdaaNmN
import Derived.BigRegion
set_option linter.unusedVariables false
set_option linter.unusedSimpArgs false
namespace Go.Proofs.Ytocbacpbckejdaa
open Go.RowKit

set_option maxRecDepth 100000 in
set_option maxHeartbeats 8000000 in
theorem rtake8_any (s : ByteArray) (A : Option Addr) (cap : Nat) (adds : List Int) (w : World) (hi : IntAt w A cap adds) (hs : s.size ≤ 1100000) :
  Calls Try.prog 21 #[.string s, .slice A adds.length cap] w (TKPost w (takeF s adds)) := by
 have HI := Lib.hid hi
 have HP := Lib.hid (fun w => rpair_any s w hs)
 clear hi
 by_cases h3 : s.size < 3
 ·
  have HR : Hid (takeF s adds = .error 4) := if_pos h3
  rw [show pairR s = .tuple #[.int .i64 0, .int .i64 4] from if_pos h3] at HP
  clear h3
  go_enter Try.func21, Try.ntmps21
  go_wp2_with fail
  refine (HP.out _).mono ?_
  rintro e w1 ⟨rfl, q, hw⟩
  have HB1 := Lib.hid (below_drewN (Below.refl w.heap.size w) q)
  rw [← hw] at HB1
  clear hw HP
  go_wp2_with fail
  try simp only [Exit.inBlock, Exit.then]
  refine bodyPost_ret (results_tmp4 rfl _ _ _) rfl ?_
  exact TKPost.no HR.out rfl HB1.out
 by_cases hf : pairF s = 0
 ·
  have HR : Hid (takeF s adds = .error 5) := (if_neg h3).trans (if_pos hf)
  rw [show pairR s = .tuple #[.int .i64 0, .int .i64 5] from (if_neg h3).trans (if_pos hf)] at HP
  clear h3 hf
  go_enter Try.func21, Try.ntmps21
  go_wp2_with fail
  refine (HP.out _).mono ?_
  rintro e w1 ⟨rfl, q, hw⟩
  have HB1 := Lib.hid (below_drewN (Below.refl w.heap.size w) q)
  rw [← hw] at HB1
  clear hw HP
  go_wp2_with fail
  try simp only [Exit.inBlock, Exit.then]
  refine bodyPost_ret (results_tmp4 rfl _ _ _) rfl ?_
  exact TKPost.no HR.out rfl HB1.out
 rw [show pairR s = .tuple #[.int .i64 (pairF s), .int .i64 0] from (if_neg h3).trans (if_neg hf)] at HP
 by_cases h4 : s.size < 4
 ·
  have HR := Lib.hid (take_short (adds := adds) h3 hf h4)
  have h4i : (s.size : Int) < 4 := by omega
  clear h3 hf h4
  generalize pairF s = f at HP
  go_enter Try.func21, Try.ntmps21
  go_wp2_with fail
  refine (HP.out _).mono ?_
  rintro e w1 ⟨rfl, q, hw⟩
  have HB1 := Lib.hid (below_drewN (Below.refl w.heap.size w) q)
  rw [← hw] at HB1
  clear hw HP
  go_wp2_with fail
  try simp only [Exit.inBlock, Exit.then]
  refine bodyPost_ret (results_tmp4 rfl _ _ _) rfl ?_
  exact TKPost.no HR.out rfl HB1.out
 have hll : s.data.toList.length = s.size := by rw [Array.length_toList]; rfl
 obtain ⟨x, hx⟩ : ∃ x, s.data.toList[3]? = some x := ⟨s.data.toList[3], List.getElem?_eq_getElem (by omega)⟩
 have iX : ∀ w, (Instr.index 9 (.string s) (.int .i64 3)).run Try.prog w = .ok (.int .u8 (x.toNat : Nat)) w := fun w => run_index_str w s 3 x hx rfl
 have hxl := x.toNat_lt
 obtain ⟨TL, TM⟩ := take_long (adds := adds) h3 hf hx
 have h4i : ¬ (s.size : Int) < 4 := by omega
 by_cases h5 : s.size < 4 + x.toNat + 1
 ·
  have HR := Lib.hid (TL h5)
  have h5i : (s.size : Int) < 4 + (x.toNat : Int) + 1 := by omega
  clear TL TM h5 h3 hf h4 hll hx
  generalize pairF s = f at HP
  go_enter Try.func21, Try.ntmps21
  go_wp2_with fail
  refine (HP.out _).mono ?_
  rintro e w1 ⟨rfl, q, hw⟩
  have HB1 := Lib.hid (below_drewN (Below.refl w.heap.size w) q)
  rw [← hw] at HB1
  clear hw HP
  go_wp2_with fail
  try simp only [Exit.inBlock, Exit.then]
  refine bodyPost_ret (results_tmp4 rfl _ _ _) rfl ?_
  exact TKPost.no HR.out rfl HB1.out
 have TM := TM h5
 have hin := pairF_in s
 obtain ⟨f1, f2⟩ : 1 ≤ pairF s ∧ pairF s ≤ 5 := by
  rcases hin with h | h
  ·
   exact absurd h hf
  ·
   exact h
 obtain ⟨z1, z2, z3⟩ := zS_eq f1 f2
 obtain ⟨m1, m2, m3, m4, _⟩ := row_nat f1 f2
 have hzn : noughts (zeroV (pairF s)).toNat = zS (pairF s) := by
  rw [z1]
  unfold noughts
  rw [List.toArray_replicate]
 have hzz : (zeroV (pairF s)).toNat = (zS (pairF s)).size := by omega
 rw [hzn, hzz] at TM
 obtain ⟨N4, hN4⟩ : ∃ N4 : Nat, N4 = 4 + x.toNat := ⟨_, rfl⟩
 obtain ⟨N5, hN5⟩ : ∃ N5 : Nat, N5 = N4 + 1 := ⟨_, rfl⟩
 rw [← hN4, ← hN5] at TM
 have a4 : (4 : Int) + (x.toNat : Nat) = (N4 : Nat) := by omega
 have a5 : ((N4 : Nat) : Int) + 1 = (N5 : Nat) := by omega
 have b5 : ((N5 : Nat) : Int) ≤ s.size := by omega
 have b4 : ((N4 : Nat) : Int) ≤ s.size := by omega
 have h5i : ¬ (s.size : Int) < (N5 : Nat) := by omega
 have b44 : (4 : Int) ≤ (N4 : Nat) := by omega
 have HAH := Lib.hid (fun w => rahead8_any (pairF s) w)
 have hsz : (s.extract N5 s.size).size ≤ 1100000 := by rw [ByteArray.size_extract]; omega
 have HD := Lib.hid (fun V => rdecode_any (s.extract N5 s.size) (pairF s) (hasI adds (pairF s)) V f1 f2 hsz)
 have hm : (((sizeV (pairF s)).toNat : Nat) : Int) = sV (pairF s) := by rw [z2]; exact m2
 have hz8 : (zS (pairF s)).size ≤ 8 := by omega
 have hM16 : (sizeV (pairF s)).toNat ≤ 16 := m4
 obtain ⟨h0, hh0⟩ : ∃ h0, h0 = s.extract 4 N4 := ⟨_, rfl⟩
 have hh0s : h0.size = x.toNat := by rw [hh0, ByteArray.size_extract]; omega
 rw [← hh0] at TM
 have HH0 := Lib.hid hh0.symm
 obtain ⟨r, hr⟩ : ∃ r, r = takeF s adds := ⟨_, rfl⟩
 rw [← hr] at TM ⊢
 obtain ⟨hop, hhop⟩ : ∃ hop, hop = hopF (pairF s) x.toNat h0 := ⟨_, rfl⟩
 rw [← hhop] at TM
 have HHOP := Lib.hid hhop.symm
 obtain ⟨TA, TB, TC⟩ := TM
 have HTA := Lib.hid TA
 have HTB := Lib.hid TB
 have HTC := Lib.hid TC
 clear TA TB TC TL h3 hf h4 h5 hll hx hin z1 z2 z3 m1 m2 m3 m4 hzn hzz hN4 hN5 hsz hh0 hr hhop
 generalize pairF s = f at HP HAH HD HTA HTB HTC f1 f2 hm hz8 HHOP hM16
 generalize (sizeV f).toNat = M at HTA HTC hm hM16
 generalize zS f = zs at HAH HTA HTB HTC hz8
 generalize sV f = sv at HAH hm
 have hsv0 : 0 ≤ sv := by omega
 have hsv1 : sv ≤ 16 := by omega
 go_enter Try.func21, Try.ntmps21
 go_wp2_with fail
 refine (HP.out _).mono ?_
 rintro e w1 ⟨rfl, q, hw⟩
 have HB1 := Lib.hid (below_drewN (Below.refl w.heap.size w) q)
 rw [← hw] at HB1
 clear hw HP
 have HI1 := Lib.hid (HI.out.below HB1.out (Nat.le_refl _))
 go_wp2_with fail
 refine (HAH.out _).mono ?_
 rintro e w2 ⟨rfl, hw⟩
 rw [hw]
 clear hw iX
 have h0e := HH0.out
 by_cases hf2 : f = 2 ∧ x.toNat = 32
 ·
  have HHE : Hid (h0.extract 0 16 = hop) := by
   have h := HHOP.out
   unfold hopF at h
   rwa [if_pos hf2] at h
  have h16 : (16 : Int) ≤ h0.size := by omega
  obtain ⟨hq2, hn2⟩ := hf2
  have e1 : (f == 2) = true := by rw [beq_iff_eq]; exact hq2
  have e2 : (((x.toNat : Nat) : Int) == 32) = true := by rw [beq_iff_eq]; omega
  clear hq2 hn2
  have hhe := HHE.out
  by_cases hsz : hop.size = zs.size + M
  ·
   have g3 : ((hop.size : Int) == (zs.size : Int) + sv) = true := by rw [beq_iff_eq]; omega
   have g3' : ((hop.size : Int) != (zs.size : Int) + sv) = false := by rw [bne, g3]; rfl
   have hzl : (zs.size : Int) ≤ hop.size := by omega
   by_cases hz : hop.extract 0 zs.size = zs
   ·
    have g4 := toList_eq hz
    have g4' : ((hop.extract 0 zs.size).toList != zs.toList) = false := by rw [bne, g4]; rfl
    have hg := HTC.out hsz hz
    obtain ⟨bb, hbb⟩ : ∃ bb, hasI adds f = bb := ⟨_, rfl⟩
    have HBB := Lib.hid hbb
    rw [hbb] at HD hg
    clear hbb hsz hz HTA HTB HTC
    go_wp2_with fail
    cases hd : decAll f bb (s.extract N5 s.size) with
    | none =>
     rw [hd] at hg
     have HG := Lib.hid hg
     have HDD := Lib.hid hd
     clear hg hd g3 g3' g4 g4'
     refine wp_region_held_drew (S := fun w' => Below w1.heap.size w1 w') (by kernel_rfl) (below_drewN (Below.refl _ _) 1) (fun hHeld => ?_)
     refine wpAnyH_take (i := 0) (oi := kO0) (v := ?_) rfl (by kernel_rfl) (by kernel_rfl) (by kernel_rfl) (fun _ _ _ h => h) (Or.inl ⟨by rfl, ?_⟩) hHeld ?_
     rotate_left
     ·
      intro w hSw
      clear hSw
      try dsimp only [kO0]
      go_simp
      try with_reducible rfl
     try simp only [kO0, Act.put, sA, sZ, sS]
     refine wpAnyH_take (i := 1) (oi := kO1) (v := ?_) rfl (by kernel_rfl) (by kernel_rfl) (by kernel_rfl) (fun _ _ _ h => h) (Or.inl ⟨by rfl, ?_⟩) hHeld ?_
     rotate_left
     ·
      intro w hSw
      clear hSw
      try dsimp only [kO1]
      go_simp
      try with_reducible rfl
     try simp only [kO1, Act.put, sA, sZ, sS]
     refine wpAnyH_take (i := 2) (oi := kO2) (v := .int .i64 (N4 : Nat)) rfl (by kernel_rfl) (by kernel_rfl) (by kernel_rfl) (fun _ _ _ h => h) (Or.inl ⟨by rfl, ?_⟩) hHeld ?_
     ·
      intro w hSw
      clear hSw
      try dsimp only [kO2]
      go_simp
      first | (rw [IntWalk.i64_in _ (by omega)]; omega) | (rw [IntWalk.i64_in _ (by omega)]) | omega
     try simp only [kO2, Act.put, sA, sZ, sS]
     refine wpAnyH_take (i := 3) (oi := kO3) (v := .int .i64 (N5 : Nat)) rfl (by kernel_rfl) (by kernel_rfl) (by kernel_rfl) (fun _ _ _ h => h) (Or.inl ⟨by rfl, ?_⟩) hHeld ?_
     ·
      intro w hSw
      clear hSw
      try dsimp only [kO3]
      go_simp
      first | (rw [IntWalk.i64_in _ (by omega)]; omega) | (rw [IntWalk.i64_in _ (by omega)]) | omega
     try simp only [kO3, Act.put, sA, sZ, sS]
     refine wpAnyH_take (i := 4) (oi := kO4) (v := .string (s.extract N5 s.size)) rfl (by kernel_rfl) (by kernel_rfl) (by kernel_rfl) (fun _ _ _ h => h) (Or.inl ⟨by rfl, ?_⟩) hHeld ?_
     ·
      intro w hSw
      clear hSw
      try dsimp only [kO4]
      go_simp
      try rfl
     try simp only [kO4, Act.put, sA, sZ, sS]
     refine wpAnyH_take (i := 5) (oi := kO5) (v := ?_) rfl (by kernel_rfl) (by kernel_rfl) (by kernel_rfl) (fun _ _ _ h => h) (Or.inl ⟨by rfl, ?_⟩) hHeld ?_
     rotate_left
     ·
      intro w hSw
      clear hSw
      try dsimp only [kO5]
      go_simp
      try with_reducible rfl
     try simp only [kO5, Act.put, sA, sZ, sS]
     refine wpAnyH_take (i := 6) (oi := kO6) (v := ?_) rfl (by kernel_rfl) (by kernel_rfl) (by kernel_rfl) (fun _ _ _ h => h) (Or.inl ⟨by rfl, ?_⟩) hHeld ?_
     rotate_left
     ·
      intro w hSw
      clear hSw
      try dsimp only [kO6]
      go_simp
      try with_reducible rfl
     try simp only [kO6, Act.put, sA, sZ, sS]
     refine wpAnyH_take (i := 7) (oi := kO7) (v := ?_) rfl (by kernel_rfl) (by kernel_rfl) (by kernel_rfl) (fun _ _ _ h => h) (Or.inl ⟨by rfl, ?_⟩) hHeld ?_
     rotate_left
     ·
      intro w hSw
      clear hSw
      try dsimp only [kO7]
      go_simp
      try with_reducible rfl
     try simp only [kO7, Act.put, sA, sZ, sS]
     refine wpAnyH_ready (rs := [8]) (by as_aux_lemma => kernel_rfl) (by simp) ?_
     refine AllReadyH.cons (o := kO8) rfl (fun K hK => ?_) AllReadyH.nil
     dsimp only [kO8]
     go_simp
     refine (rhas_any A cap adds f _ (HI1.out.below hHeld (Nat.le_refl _))).mono ?_
     rintro e u1 ⟨rfl, hw⟩
     rw [hw]
     clear hw
     rw [HBB.out]
     go_wp2_with fail
     refine hK.out _ _ hHeld (fun hHeld => ?_)
     clear hK K
     try simp only [Act.put, sA, sZ, sS]
     refine wpAnyH_ready (rs := [9]) (by as_aux_lemma => kernel_rfl) (by simp) ?_
     refine AllReadyH.cons (o := kO9) rfl (fun K hK => ?_) AllReadyH.nil
     dsimp only [kO9]
     go_simp
     refine (HD.out _).mono ?_
     rintro e u2 ⟨hb, hm⟩
     rw [HDD.out] at hm
     obtain rfl : e = _ := hm
     go_wp2_with fail
     refine hK.out _ _ (hHeld.trans (hb.mono hHeld.size)) (fun hHeld => ?_)
     clear hK K
     have hv2 : Below w1.heap.size w1 u2 := (below_drewN (Below.refl w1.heap.size w1) 1).trans hb
     refine wpAnyH_more (S' := fun w' => Below u2.heap.size u2 w') (fun _ h => hHeld.trans (h.mono hHeld.size)) _ _ _ _ ?_
     clear hHeld hb
     have hHeld : Below u2.heap.size u2 u2 := (Below.refl _ _)
     try simp only [Act.put, sA, sZ, sS]
     refine wpAnyH_take (i := 10) (oi := kO10) (v := ?_) rfl (by kernel_rfl) (by kernel_rfl) (by kernel_rfl) (fun _ _ _ h => h) (Or.inl ⟨by rfl, ?_⟩) hHeld ?_
     rotate_left
     ·
      intro w hSw
      clear hSw
      try dsimp only [kO10]
      go_simp
      try with_reducible rfl
     try simp only [kO10, Act.put, sA, sZ, sS]
     refine wpAnyH_take (i := 11) (oi := kO11) (v := ?_) rfl (by kernel_rfl) (by kernel_rfl) (by kernel_rfl) (fun _ _ _ h => h) (Or.inl ⟨by rfl, ?_⟩) hHeld ?_
     rotate_left
     ·
      intro w hSw
      clear hSw
      try dsimp only [kO11]
      go_simp
      try with_reducible rfl
     try simp only [kO11, Act.put, sA, sZ, sS]
     refine wpAnyH_take (i := 12) (oi := kO12) (v := ?_) rfl (by kernel_rfl) (by kernel_rfl) (by kernel_rfl) (fun _ _ _ h => h) (Or.inl ⟨by rfl, ?_⟩) hHeld ?_
     rotate_left
     ·
      intro w hSw
      clear hSw
      try dsimp only [kO12]
      go_simp
      try with_reducible rfl
     try simp only [kO12, Act.put, sA, sZ, sS]
     refine wpAnyH_take (i := 13) (oi := kO13) (v := ?_) rfl (by kernel_rfl) (by kernel_rfl) (by kernel_rfl) (fun _ _ _ h => h) (Or.inl ⟨by rfl, ?_⟩) hHeld ?_
     rotate_left
     ·
      intro w hSw
      clear hSw
      try dsimp only [kO13]
      go_simp
      try with_reducible rfl
     try simp only [kO13, Act.put, sA, sZ, sS]
     refine wpAnyH_take (i := 14) (oi := kO14) (v := ?_) rfl (by kernel_rfl) (by kernel_rfl) (by kernel_rfl) (fun _ _ _ h => h) (Or.inl ⟨by rfl, ?_⟩) hHeld ?_
     rotate_left
     ·
      intro w hSw
      clear hSw
      try dsimp only [kO14]
      go_simp
      try with_reducible rfl
     try simp only [kO14, Act.put, sA, sZ, sS]
     refine wpAnyH_done (by as_aux_lemma => kernel_rfl) ?_ _
     have HB9 := Lib.hid (HB1.out.trans (hv2.mono HB1.out.size))
     clear hHeld
     go_wp2_with fail
     try simp only [Exit.inBlock, Exit.then]
     refine bodyPost_ret (results_tmp4 rfl _ _ _) rfl ?_
     exact TKPost.no HG.out rfl HB9.out
    | some L =>
     rw [hd] at hg
     have HG := Lib.hid hg
     have HDD := Lib.hid hd
     clear hg hd g3 g3' g4 g4'
     refine wp_region_held_drew (S := fun w' => Below w1.heap.size w1 w') (by kernel_rfl) (below_drewN (Below.refl _ _) 1) (fun hHeld => ?_)
     refine wpAnyH_take (i := 0) (oi := kO0) (v := ?_) rfl (by kernel_rfl) (by kernel_rfl) (by kernel_rfl) (fun _ _ _ h => h) (Or.inl ⟨by rfl, ?_⟩) hHeld ?_
     rotate_left
     ·
      intro w hSw
      clear hSw
      try dsimp only [kO0]
      go_simp
      try with_reducible rfl
     try simp only [kO0, Act.put, sA, sZ, sS]
     refine wpAnyH_take (i := 1) (oi := kO1) (v := ?_) rfl (by kernel_rfl) (by kernel_rfl) (by kernel_rfl) (fun _ _ _ h => h) (Or.inl ⟨by rfl, ?_⟩) hHeld ?_
     rotate_left
     ·
      intro w hSw
      clear hSw
      try dsimp only [kO1]
      go_simp
      try with_reducible rfl
     try simp only [kO1, Act.put, sA, sZ, sS]
     refine wpAnyH_take (i := 2) (oi := kO2) (v := .int .i64 (N4 : Nat)) rfl (by kernel_rfl) (by kernel_rfl) (by kernel_rfl) (fun _ _ _ h => h) (Or.inl ⟨by rfl, ?_⟩) hHeld ?_
     ·
      intro w hSw
      clear hSw
      try dsimp only [kO2]
      go_simp
      first | (rw [IntWalk.i64_in _ (by omega)]; omega) | (rw [IntWalk.i64_in _ (by omega)]) | omega
     try simp only [kO2, Act.put, sA, sZ, sS]
     refine wpAnyH_take (i := 3) (oi := kO3) (v := .int .i64 (N5 : Nat)) rfl (by kernel_rfl) (by kernel_rfl) (by kernel_rfl) (fun _ _ _ h => h) (Or.inl ⟨by rfl, ?_⟩) hHeld ?_
     ·
      intro w hSw
      clear hSw
      try dsimp only [kO3]
      go_simp
      first | (rw [IntWalk.i64_in _ (by omega)]; omega) | (rw [IntWalk.i64_in _ (by omega)]) | omega
     try simp only [kO3, Act.put, sA, sZ, sS]
     refine wpAnyH_take (i := 4) (oi := kO4) (v := .string (s.extract N5 s.size)) rfl (by kernel_rfl) (by kernel_rfl) (by kernel_rfl) (fun _ _ _ h => h) (Or.inl ⟨by rfl, ?_⟩) hHeld ?_
     ·
      intro w hSw
      clear hSw
      try dsimp only [kO4]
      go_simp
      try rfl
     try simp only [kO4, Act.put, sA, sZ, sS]
     refine wpAnyH_take (i := 5) (oi := kO5) (v := ?_) rfl (by kernel_rfl) (by kernel_rfl) (by kernel_rfl) (fun _ _ _ h => h) (Or.inl ⟨by rfl, ?_⟩) hHeld ?_
     rotate_left
     ·
      intro w hSw
      clear hSw
      try dsimp only [kO5]
      go_simp
      try with_reducible rfl
     try simp only [kO5, Act.put, sA, sZ, sS]
     refine wpAnyH_take (i := 6) (oi := kO6) (v := ?_) rfl (by kernel_rfl) (by kernel_rfl) (by kernel_rfl) (fun _ _ _ h => h) (Or.inl ⟨by rfl, ?_⟩) hHeld ?_
     rotate_left
     ·
      intro w hSw
      clear hSw
      try dsimp only [kO6]
      go_simp
      try with_reducible rfl
     try simp only [kO6, Act.put, sA, sZ, sS]
     refine wpAnyH_take (i := 7) (oi := kO7) (v := ?_) rfl (by kernel_rfl) (by kernel_rfl) (by kernel_rfl) (fun _ _ _ h => h) (Or.inl ⟨by rfl, ?_⟩) hHeld ?_
     rotate_left
     ·
      intro w hSw
      clear hSw
      try dsimp only [kO7]
      go_simp
      try with_reducible rfl
     try simp only [kO7, Act.put, sA, sZ, sS]
     refine wpAnyH_ready (rs := [8]) (by as_aux_lemma => kernel_rfl) (by simp) ?_
     refine AllReadyH.cons (o := kO8) rfl (fun K hK => ?_) AllReadyH.nil
     dsimp only [kO8]
     go_simp
     refine (rhas_any A cap adds f _ (HI1.out.below hHeld (Nat.le_refl _))).mono ?_
     rintro e u1 ⟨rfl, hw⟩
     rw [hw]
     clear hw
     rw [HBB.out]
     go_wp2_with fail
     refine hK.out _ _ hHeld (fun hHeld => ?_)
     clear hK K
     try simp only [Act.put, sA, sZ, sS]
     refine wpAnyH_ready (rs := [9]) (by as_aux_lemma => kernel_rfl) (by simp) ?_
     refine AllReadyH.cons (o := kO9) rfl (fun K hK => ?_) AllReadyH.nil
     dsimp only [kO9]
     go_simp
     refine (HD.out _).mono ?_
     rintro e u2 ⟨hb, hm⟩
     rw [HDD.out] at hm
     obtain ⟨v, rfl, ho⟩ := hm
     obtain ⟨A2, c2, rfl⟩ := OwnM.form ho
     go_wp2_with fail
     refine hK.out _ _ (hHeld.trans (hb.mono hHeld.size)) (fun hHeld => ?_)
     clear hK K
     have hv2 : Below w1.heap.size w1 u2 := (below_drewN (Below.refl w1.heap.size w1) 1).trans hb
     refine wpAnyH_more (S' := fun w' => Below u2.heap.size u2 w') (fun _ h => hHeld.trans (h.mono hHeld.size)) _ _ _ _ ?_
     clear hHeld hb
     have hHeld : Below u2.heap.size u2 u2 := (Below.refl _ _)
     try simp only [Act.put, sA, sZ, sS]
     refine wpAnyH_take (i := 10) (oi := kO10) (v := ?_) rfl (by kernel_rfl) (by kernel_rfl) (by kernel_rfl) (fun _ _ _ h => h) (Or.inl ⟨by rfl, ?_⟩) hHeld ?_
     rotate_left
     ·
      intro w hSw
      clear hSw
      try dsimp only [kO10]
      go_simp
      try with_reducible rfl
     try simp only [kO10, Act.put, sA, sZ, sS]
     refine wpAnyH_take (i := 11) (oi := kO11) (v := ?_) rfl (by kernel_rfl) (by kernel_rfl) (by kernel_rfl) (fun _ _ _ h => h) (Or.inl ⟨by rfl, ?_⟩) hHeld ?_
     rotate_left
     ·
      intro w hSw
      clear hSw
      try dsimp only [kO11]
      go_simp
      try with_reducible rfl
     try simp only [kO11, Act.put, sA, sZ, sS]
     refine wpAnyH_take (i := 12) (oi := kO12) (v := ?_) rfl (by kernel_rfl) (by kernel_rfl) (by kernel_rfl) (fun _ _ _ h => h) (Or.inl ⟨by rfl, ?_⟩) hHeld ?_
     rotate_left
     ·
      intro w hSw
      clear hSw
      try dsimp only [kO12]
      go_simp
      try with_reducible rfl
     try simp only [kO12, Act.put, sA, sZ, sS]
     refine wpAnyH_take (i := 13) (oi := kO13) (v := ?_) rfl (by kernel_rfl) (by kernel_rfl) (by kernel_rfl) (fun _ _ _ h => h) (Or.inl ⟨by rfl, ?_⟩) hHeld ?_
     rotate_left
     ·
      intro w hSw
      clear hSw
      try dsimp only [kO13]
      go_simp
      try with_reducible rfl
     try simp only [kO13, Act.put, sA, sZ, sS]
     refine wpAnyH_take (i := 14) (oi := kO14) (v := ?_) rfl (by kernel_rfl) (by kernel_rfl) (by kernel_rfl) (fun _ _ _ h => h) (Or.inl ⟨by rfl, ?_⟩) hHeld ?_
     rotate_left
     ·
      intro w hSw
      clear hSw
      try dsimp only [kO14]
      go_simp
      try with_reducible rfl
     try simp only [kO14, Act.put, sA, sZ, sS]
     refine wpAnyH_done (by as_aux_lemma => kernel_rfl) ?_ _
     have HB9 := Lib.hid (HB1.out.trans (hv2.mono HB1.out.size))
     have HO9 := Lib.hid (NlOwn.low ho (show w.heap.size ≤ w1.heap.size from HB1.out.size))
     clear hHeld ho
     go_wp2_with fail
     go_quiet (fail)
     go_wp2_with fail
     try simp only [Exit.inBlock, Exit.then]
     refine bodyPost_ret (results_tmp4 rfl _ _ _) rfl ?_
     exact TKPost.yes HG.out rfl HO9.out (below_drewN HB9.out nq)
   ·
    have g4 := toList_ne hz
    have g4' : ((hop.extract 0 zs.size).toList != zs.toList) = true := by rw [bne, g4]; rfl
    have HR := Lib.hid (HTB.out hz)
    clear hsz hz HTA HTB HTC
    go_wp2_with fail
    try simp only [Exit.inBlock, Exit.then]
    refine bodyPost_ret (results_tmp4 rfl _ _ _) rfl ?_
    exact TKPost.no HR.out rfl HB1.out
  ·
   have g3 : ((hop.size : Int) == (zs.size : Int) + sv) = false := by rw [beq_eq_false_iff_ne]; omega
   have g3' : ((hop.size : Int) != (zs.size : Int) + sv) = true := by rw [bne, g3]; rfl
   have HR := Lib.hid (HTA.out hsz)
   clear hsz HTA HTB HTC
   go_wp2_with fail
   try simp only [Exit.inBlock, Exit.then]
   refine bodyPost_ret (results_tmp4 rfl _ _ _) rfl ?_
   exact TKPost.no HR.out rfl HB1.out
 ·
  have HHE : Hid (h0 = hop) := by
   have h := HHOP.out
   unfold hopF at h
   rwa [if_neg hf2] at h
  by_cases hq2 : f = 2
  ·
   have e1 : (f == 2) = true := by rw [beq_iff_eq]; exact hq2
   have e2 : (((x.toNat : Nat) : Int) == 32) = false := beq_eq_false_iff_ne.2 (by omega)
   clear hf2 hq2
   have hhe : hop = h0 := HHE.out.symm
   subst hhe
   clear hh0s HHE
   by_cases hsz : hop.size = zs.size + M
   ·
    have g3 : ((hop.size : Int) == (zs.size : Int) + sv) = true := by rw [beq_iff_eq]; omega
    have g3' : ((hop.size : Int) != (zs.size : Int) + sv) = false := by rw [bne, g3]; rfl
    have hzl : (zs.size : Int) ≤ hop.size := by omega
    by_cases hz : hop.extract 0 zs.size = zs
    ·
     have g4 := toList_eq hz
     have g4' : ((hop.extract 0 zs.size).toList != zs.toList) = false := by rw [bne, g4]; rfl
     have hg := HTC.out hsz hz
     obtain ⟨bb, hbb⟩ : ∃ bb, hasI adds f = bb := ⟨_, rfl⟩
     have HBB := Lib.hid hbb
     rw [hbb] at HD hg
     clear hbb hsz hz HTA HTB HTC
     go_wp2_with fail
     cases hd : decAll f bb (s.extract N5 s.size) with
     | none =>
      rw [hd] at hg
      have HG := Lib.hid hg
      have HDD := Lib.hid hd
      clear hg hd g3 g3' g4 g4'
      refine wp_region_held_drew (S := fun w' => Below w1.heap.size w1 w') (by kernel_rfl) (below_drewN (Below.refl _ _) 1) (fun hHeld => ?_)
      refine wpAnyH_take (i := 0) (oi := kO0) (v := ?_) rfl (by kernel_rfl) (by kernel_rfl) (by kernel_rfl) (fun _ _ _ h => h) (Or.inl ⟨by rfl, ?_⟩) hHeld ?_
      rotate_left
      ·
       intro w hSw
       clear hSw
       try dsimp only [kO0]
       go_simp
       try with_reducible rfl
      try simp only [kO0, Act.put, sA, sZ, sS]
      refine wpAnyH_take (i := 1) (oi := kO1) (v := ?_) rfl (by kernel_rfl) (by kernel_rfl) (by kernel_rfl) (fun _ _ _ h => h) (Or.inl ⟨by rfl, ?_⟩) hHeld ?_
      rotate_left
      ·
       intro w hSw
       clear hSw
       try dsimp only [kO1]
       go_simp
       try with_reducible rfl
      try simp only [kO1, Act.put, sA, sZ, sS]
      refine wpAnyH_take (i := 2) (oi := kO2) (v := .int .i64 (N4 : Nat)) rfl (by kernel_rfl) (by kernel_rfl) (by kernel_rfl) (fun _ _ _ h => h) (Or.inl ⟨by rfl, ?_⟩) hHeld ?_
      ·
       intro w hSw
       clear hSw
       try dsimp only [kO2]
       go_simp
       first | (rw [IntWalk.i64_in _ (by omega)]; omega) | (rw [IntWalk.i64_in _ (by omega)]) | omega
      try simp only [kO2, Act.put, sA, sZ, sS]
      refine wpAnyH_take (i := 3) (oi := kO3) (v := .int .i64 (N5 : Nat)) rfl (by kernel_rfl) (by kernel_rfl) (by kernel_rfl) (fun _ _ _ h => h) (Or.inl ⟨by rfl, ?_⟩) hHeld ?_
      ·
       intro w hSw
       clear hSw
       try dsimp only [kO3]
       go_simp
       first | (rw [IntWalk.i64_in _ (by omega)]; omega) | (rw [IntWalk.i64_in _ (by omega)]) | omega
      try simp only [kO3, Act.put, sA, sZ, sS]
      refine wpAnyH_take (i := 4) (oi := kO4) (v := .string (s.extract N5 s.size)) rfl (by kernel_rfl) (by kernel_rfl) (by kernel_rfl) (fun _ _ _ h => h) (Or.inl ⟨by rfl, ?_⟩) hHeld ?_
      ·
       intro w hSw
       clear hSw
       try dsimp only [kO4]
       go_simp
       try rfl
      try simp only [kO4, Act.put, sA, sZ, sS]
      refine wpAnyH_take (i := 5) (oi := kO5) (v := ?_) rfl (by kernel_rfl) (by kernel_rfl) (by kernel_rfl) (fun _ _ _ h => h) (Or.inl ⟨by rfl, ?_⟩) hHeld ?_
      rotate_left
      ·
       intro w hSw
       clear hSw
       try dsimp only [kO5]
       go_simp
       try with_reducible rfl
      try simp only [kO5, Act.put, sA, sZ, sS]
      refine wpAnyH_take (i := 6) (oi := kO6) (v := ?_) rfl (by kernel_rfl) (by kernel_rfl) (by kernel_rfl) (fun _ _ _ h => h) (Or.inl ⟨by rfl, ?_⟩) hHeld ?_
      rotate_left
      ·
       intro w hSw
       clear hSw
       try dsimp only [kO6]
       go_simp
       try with_reducible rfl
      try simp only [kO6, Act.put, sA, sZ, sS]
      refine wpAnyH_take (i := 7) (oi := kO7) (v := ?_) rfl (by kernel_rfl) (by kernel_rfl) (by kernel_rfl) (fun _ _ _ h => h) (Or.inl ⟨by rfl, ?_⟩) hHeld ?_
      rotate_left
      ·
       intro w hSw
       clear hSw
       try dsimp only [kO7]
       go_simp
       try with_reducible rfl
      try simp only [kO7, Act.put, sA, sZ, sS]
      refine wpAnyH_ready (rs := [8]) (by as_aux_lemma => kernel_rfl) (by simp) ?_
      refine AllReadyH.cons (o := kO8) rfl (fun K hK => ?_) AllReadyH.nil
      dsimp only [kO8]
      go_simp
      refine (rhas_any A cap adds f _ (HI1.out.below hHeld (Nat.le_refl _))).mono ?_
      rintro e u1 ⟨rfl, hw⟩
      rw [hw]
      clear hw
      rw [HBB.out]
      go_wp2_with fail
      refine hK.out _ _ hHeld (fun hHeld => ?_)
      clear hK K
      try simp only [Act.put, sA, sZ, sS]
      refine wpAnyH_ready (rs := [9]) (by as_aux_lemma => kernel_rfl) (by simp) ?_
      refine AllReadyH.cons (o := kO9) rfl (fun K hK => ?_) AllReadyH.nil
      dsimp only [kO9]
      go_simp
      refine (HD.out _).mono ?_
      rintro e u2 ⟨hb, hm⟩
      rw [HDD.out] at hm
      obtain rfl : e = _ := hm
      go_wp2_with fail
      refine hK.out _ _ (hHeld.trans (hb.mono hHeld.size)) (fun hHeld => ?_)
      clear hK K
      have hv2 : Below w1.heap.size w1 u2 := (below_drewN (Below.refl w1.heap.size w1) 1).trans hb
      refine wpAnyH_more (S' := fun w' => Below u2.heap.size u2 w') (fun _ h => hHeld.trans (h.mono hHeld.size)) _ _ _ _ ?_
      clear hHeld hb
      have hHeld : Below u2.heap.size u2 u2 := (Below.refl _ _)
      try simp only [Act.put, sA, sZ, sS]
      refine wpAnyH_take (i := 10) (oi := kO10) (v := ?_) rfl (by kernel_rfl) (by kernel_rfl) (by kernel_rfl) (fun _ _ _ h => h) (Or.inl ⟨by rfl, ?_⟩) hHeld ?_
      rotate_left
      ·
       intro w hSw
       clear hSw
       try dsimp only [kO10]
       go_simp
       try with_reducible rfl
      try simp only [kO10, Act.put, sA, sZ, sS]
      refine wpAnyH_take (i := 11) (oi := kO11) (v := ?_) rfl (by kernel_rfl) (by kernel_rfl) (by kernel_rfl) (fun _ _ _ h => h) (Or.inl ⟨by rfl, ?_⟩) hHeld ?_
      rotate_left
      ·
       intro w hSw
       clear hSw
       try dsimp only [kO11]
       go_simp
       try with_reducible rfl
      try simp only [kO11, Act.put, sA, sZ, sS]
      refine wpAnyH_take (i := 12) (oi := kO12) (v := ?_) rfl (by kernel_rfl) (by kernel_rfl) (by kernel_rfl) (fun _ _ _ h => h) (Or.inl ⟨by rfl, ?_⟩) hHeld ?_
      rotate_left
      ·
       intro w hSw
       clear hSw
       try dsimp only [kO12]
       go_simp
       try with_reducible rfl
      try simp only [kO12, Act.put, sA, sZ, sS]
      refine wpAnyH_take (i := 13) (oi := kO13) (v := ?_) rfl (by kernel_rfl) (by kernel_rfl) (by kernel_rfl) (fun _ _ _ h => h) (Or.inl ⟨by rfl, ?_⟩) hHeld ?_
      rotate_left
      ·
       intro w hSw
       clear hSw
       try dsimp only [kO13]
       go_simp
       try with_reducible rfl
      try simp only [kO13, Act.put, sA, sZ, sS]
      refine wpAnyH_take (i := 14) (oi := kO14) (v := ?_) rfl (by kernel_rfl) (by kernel_rfl) (by kernel_rfl) (fun _ _ _ h => h) (Or.inl ⟨by rfl, ?_⟩) hHeld ?_
      rotate_left
      ·
       intro w hSw
       clear hSw
       try dsimp only [kO14]
       go_simp
       try with_reducible rfl
      try simp only [kO14, Act.put, sA, sZ, sS]
      refine wpAnyH_done (by as_aux_lemma => kernel_rfl) ?_ _
      have HB9 := Lib.hid (HB1.out.trans (hv2.mono HB1.out.size))
      clear hHeld
      go_wp2_with fail
      try simp only [Exit.inBlock, Exit.then]
      refine bodyPost_ret (results_tmp4 rfl _ _ _) rfl ?_
      exact TKPost.no HG.out rfl HB9.out
     | some L =>
      rw [hd] at hg
      have HG := Lib.hid hg
      have HDD := Lib.hid hd
      clear hg hd g3 g3' g4 g4'
      refine wp_region_held_drew (S := fun w' => Below w1.heap.size w1 w') (by kernel_rfl) (below_drewN (Below.refl _ _) 1) (fun hHeld => ?_)
      refine wpAnyH_take (i := 0) (oi := kO0) (v := ?_) rfl (by kernel_rfl) (by kernel_rfl) (by kernel_rfl) (fun _ _ _ h => h) (Or.inl ⟨by rfl, ?_⟩) hHeld ?_
      rotate_left
      ·
       intro w hSw
       clear hSw
       try dsimp only [kO0]
       go_simp
       try with_reducible rfl
      try simp only [kO0, Act.put, sA, sZ, sS]
      refine wpAnyH_take (i := 1) (oi := kO1) (v := ?_) rfl (by kernel_rfl) (by kernel_rfl) (by kernel_rfl) (fun _ _ _ h => h) (Or.inl ⟨by rfl, ?_⟩) hHeld ?_
      rotate_left
      ·
       intro w hSw
       clear hSw
       try dsimp only [kO1]
       go_simp
       try with_reducible rfl
      try simp only [kO1, Act.put, sA, sZ, sS]
      refine wpAnyH_take (i := 2) (oi := kO2) (v := .int .i64 (N4 : Nat)) rfl (by kernel_rfl) (by kernel_rfl) (by kernel_rfl) (fun _ _ _ h => h) (Or.inl ⟨by rfl, ?_⟩) hHeld ?_
      ·
       intro w hSw
       clear hSw
       try dsimp only [kO2]
       go_simp
       first | (rw [IntWalk.i64_in _ (by omega)]; omega) | (rw [IntWalk.i64_in _ (by omega)]) | omega
      try simp only [kO2, Act.put, sA, sZ, sS]
      refine wpAnyH_take (i := 3) (oi := kO3) (v := .int .i64 (N5 : Nat)) rfl (by kernel_rfl) (by kernel_rfl) (by kernel_rfl) (fun _ _ _ h => h) (Or.inl ⟨by rfl, ?_⟩) hHeld ?_
      ·
       intro w hSw
       clear hSw
       try dsimp only [kO3]
       go_simp
       first | (rw [IntWalk.i64_in _ (by omega)]; omega) | (rw [IntWalk.i64_in _ (by omega)]) | omega
      try simp only [kO3, Act.put, sA, sZ, sS]
      refine wpAnyH_take (i := 4) (oi := kO4) (v := .string (s.extract N5 s.size)) rfl (by kernel_rfl) (by kernel_rfl) (by kernel_rfl) (fun _ _ _ h => h) (Or.inl ⟨by rfl, ?_⟩) hHeld ?_
      ·
       intro w hSw
       clear hSw
       try dsimp only [kO4]
       go_simp
       try rfl
      try simp only [kO4, Act.put, sA, sZ, sS]
      refine wpAnyH_take (i := 5) (oi := kO5) (v := ?_) rfl (by kernel_rfl) (by kernel_rfl) (by kernel_rfl) (fun _ _ _ h => h) (Or.inl ⟨by rfl, ?_⟩) hHeld ?_
      rotate_left
      ·
       intro w hSw
       clear hSw
       try dsimp only [kO5]
       go_simp
       try with_reducible rfl
      try simp only [kO5, Act.put, sA, sZ, sS]
      refine wpAnyH_take (i := 6) (oi := kO6) (v := ?_) rfl (by kernel_rfl) (by kernel_rfl) (by kernel_rfl) (fun _ _ _ h => h) (Or.inl ⟨by rfl, ?_⟩) hHeld ?_
      rotate_left
      ·
       intro w hSw
       clear hSw
       try dsimp only [kO6]
       go_simp
       try with_reducible rfl
      try simp only [kO6, Act.put, sA, sZ, sS]
      refine wpAnyH_take (i := 7) (oi := kO7) (v := ?_) rfl (by kernel_rfl) (by kernel_rfl) (by kernel_rfl) (fun _ _ _ h => h) (Or.inl ⟨by rfl, ?_⟩) hHeld ?_
      rotate_left
      ·
       intro w hSw
       clear hSw
       try dsimp only [kO7]
       go_simp
       try with_reducible rfl
      try simp only [kO7, Act.put, sA, sZ, sS]
      refine wpAnyH_ready (rs := [8]) (by as_aux_lemma => kernel_rfl) (by simp) ?_
      refine AllReadyH.cons (o := kO8) rfl (fun K hK => ?_) AllReadyH.nil
      dsimp only [kO8]
      go_simp
      refine (rhas_any A cap adds f _ (HI1.out.below hHeld (Nat.le_refl _))).mono ?_
      rintro e u1 ⟨rfl, hw⟩
      rw [hw]
      clear hw
      rw [HBB.out]
      go_wp2_with fail
      refine hK.out _ _ hHeld (fun hHeld => ?_)
      clear hK K
      try simp only [Act.put, sA, sZ, sS]
      refine wpAnyH_ready (rs := [9]) (by as_aux_lemma => kernel_rfl) (by simp) ?_
      refine AllReadyH.cons (o := kO9) rfl (fun K hK => ?_) AllReadyH.nil
      dsimp only [kO9]
      go_simp
      refine (HD.out _).mono ?_
      rintro e u2 ⟨hb, hm⟩
      rw [HDD.out] at hm
      obtain ⟨v, rfl, ho⟩ := hm
      obtain ⟨A2, c2, rfl⟩ := OwnM.form ho
      go_wp2_with fail
      refine hK.out _ _ (hHeld.trans (hb.mono hHeld.size)) (fun hHeld => ?_)
      clear hK K
      have hv2 : Below w1.heap.size w1 u2 := (below_drewN (Below.refl w1.heap.size w1) 1).trans hb
      refine wpAnyH_more (S' := fun w' => Below u2.heap.size u2 w') (fun _ h => hHeld.trans (h.mono hHeld.size)) _ _ _ _ ?_
      clear hHeld hb
      have hHeld : Below u2.heap.size u2 u2 := (Below.refl _ _)
      try simp only [Act.put, sA, sZ, sS]
      refine wpAnyH_take (i := 10) (oi := kO10) (v := ?_) rfl (by kernel_rfl) (by kernel_rfl) (by kernel_rfl) (fun _ _ _ h => h) (Or.inl ⟨by rfl, ?_⟩) hHeld ?_
      rotate_left
      ·
       intro w hSw
       clear hSw
       try dsimp only [kO10]
       go_simp
       try with_reducible rfl
      try simp only [kO10, Act.put, sA, sZ, sS]
      refine wpAnyH_take (i := 11) (oi := kO11) (v := ?_) rfl (by kernel_rfl) (by kernel_rfl) (by kernel_rfl) (fun _ _ _ h => h) (Or.inl ⟨by rfl, ?_⟩) hHeld ?_
      rotate_left
      ·
       intro w hSw
       clear hSw
       try dsimp only [kO11]
       go_simp
       try with_reducible rfl
      try simp only [kO11, Act.put, sA, sZ, sS]
      refine wpAnyH_take (i := 12) (oi := kO12) (v := ?_) rfl (by kernel_rfl) (by kernel_rfl) (by kernel_rfl) (fun _ _ _ h => h) (Or.inl ⟨by rfl, ?_⟩) hHeld ?_
      rotate_left
      ·
       intro w hSw
       clear hSw
       try dsimp only [kO12]
       go_simp
       try with_reducible rfl
      try simp only [kO12, Act.put, sA, sZ, sS]
      refine wpAnyH_take (i := 13) (oi := kO13) (v := ?_) rfl (by kernel_rfl) (by kernel_rfl) (by kernel_rfl) (fun _ _ _ h => h) (Or.inl ⟨by rfl, ?_⟩) hHeld ?_
      rotate_left
      ·
       intro w hSw
       clear hSw
       try dsimp only [kO13]
       go_simp
       try with_reducible rfl
      try simp only [kO13, Act.put, sA, sZ, sS]
      refine wpAnyH_take (i := 14) (oi := kO14) (v := ?_) rfl (by kernel_rfl) (by kernel_rfl) (by kernel_rfl) (fun _ _ _ h => h) (Or.inl ⟨by rfl, ?_⟩) hHeld ?_
      rotate_left
      ·
       intro w hSw
       clear hSw
       try dsimp only [kO14]
       go_simp
       try with_reducible rfl
      try simp only [kO14, Act.put, sA, sZ, sS]
      refine wpAnyH_done (by as_aux_lemma => kernel_rfl) ?_ _
      have HB9 := Lib.hid (HB1.out.trans (hv2.mono HB1.out.size))
      have HO9 := Lib.hid (NlOwn.low ho (show w.heap.size ≤ w1.heap.size from HB1.out.size))
      clear hHeld ho
      go_wp2_with fail
      go_quiet (fail)
      go_wp2_with fail
      try simp only [Exit.inBlock, Exit.then]
      refine bodyPost_ret (results_tmp4 rfl _ _ _) rfl ?_
      exact TKPost.yes HG.out rfl HO9.out (below_drewN HB9.out nq)
    ·
     have g4 := toList_ne hz
     have g4' : ((hop.extract 0 zs.size).toList != zs.toList) = true := by rw [bne, g4]; rfl
     have HR := Lib.hid (HTB.out hz)
     clear hsz hz HTA HTB HTC
     go_wp2_with fail
     try simp only [Exit.inBlock, Exit.then]
     refine bodyPost_ret (results_tmp4 rfl _ _ _) rfl ?_
     exact TKPost.no HR.out rfl HB1.out
   ·
    have g3 : ((hop.size : Int) == (zs.size : Int) + sv) = false := by rw [beq_eq_false_iff_ne]; omega
    have g3' : ((hop.size : Int) != (zs.size : Int) + sv) = true := by rw [bne, g3]; rfl
    have HR := Lib.hid (HTA.out hsz)
    clear hsz HTA HTB HTC
    go_wp2_with fail
    try simp only [Exit.inBlock, Exit.then]
    refine bodyPost_ret (results_tmp4 rfl _ _ _) rfl ?_
    exact TKPost.no HR.out rfl HB1.out
  ·
   have e1 : (f == 2) = false := beq_eq_false_iff_ne.2 hq2
   clear hf2 hq2
   have hhe : hop = h0 := HHE.out.symm
   subst hhe
   clear hh0s HHE
   by_cases hsz : hop.size = zs.size + M
   ·
    have g3 : ((hop.size : Int) == (zs.size : Int) + sv) = true := by rw [beq_iff_eq]; omega
    have g3' : ((hop.size : Int) != (zs.size : Int) + sv) = false := by rw [bne, g3]; rfl
    have hzl : (zs.size : Int) ≤ hop.size := by omega
    by_cases hz : hop.extract 0 zs.size = zs
    ·
     have g4 := toList_eq hz
     have g4' : ((hop.extract 0 zs.size).toList != zs.toList) = false := by rw [bne, g4]; rfl
     have hg := HTC.out hsz hz
     obtain ⟨bb, hbb⟩ : ∃ bb, hasI adds f = bb := ⟨_, rfl⟩
     have HBB := Lib.hid hbb
     rw [hbb] at HD hg
     clear hbb hsz hz HTA HTB HTC
     go_wp2_with fail
     cases hd : decAll f bb (s.extract N5 s.size) with
     | none =>
      rw [hd] at hg
      have HG := Lib.hid hg
      have HDD := Lib.hid hd
      clear hg hd g3 g3' g4 g4'
      refine wp_region_held_drew (S := fun w' => Below w1.heap.size w1 w') (by kernel_rfl) (below_drewN (Below.refl _ _) 1) (fun hHeld => ?_)
      refine wpAnyH_take (i := 0) (oi := kO0) (v := ?_) rfl (by kernel_rfl) (by kernel_rfl) (by kernel_rfl) (fun _ _ _ h => h) (Or.inl ⟨by rfl, ?_⟩) hHeld ?_
      rotate_left
      ·
       intro w hSw
       clear hSw
       try dsimp only [kO0]
       go_simp
       try with_reducible rfl
      try simp only [kO0, Act.put, sA, sZ, sS]
      refine wpAnyH_take (i := 1) (oi := kO1) (v := ?_) rfl (by kernel_rfl) (by kernel_rfl) (by kernel_rfl) (fun _ _ _ h => h) (Or.inl ⟨by rfl, ?_⟩) hHeld ?_
      rotate_left
      ·
       intro w hSw
       clear hSw
       try dsimp only [kO1]
       go_simp
       try with_reducible rfl
      try simp only [kO1, Act.put, sA, sZ, sS]
      refine wpAnyH_take (i := 2) (oi := kO2) (v := .int .i64 (N4 : Nat)) rfl (by kernel_rfl) (by kernel_rfl) (by kernel_rfl) (fun _ _ _ h => h) (Or.inl ⟨by rfl, ?_⟩) hHeld ?_
      ·
       intro w hSw
       clear hSw
       try dsimp only [kO2]
       go_simp
       first | (rw [IntWalk.i64_in _ (by omega)]; omega) | (rw [IntWalk.i64_in _ (by omega)]) | omega
      try simp only [kO2, Act.put, sA, sZ, sS]
      refine wpAnyH_take (i := 3) (oi := kO3) (v := .int .i64 (N5 : Nat)) rfl (by kernel_rfl) (by kernel_rfl) (by kernel_rfl) (fun _ _ _ h => h) (Or.inl ⟨by rfl, ?_⟩) hHeld ?_
      ·
       intro w hSw
       clear hSw
       try dsimp only [kO3]
       go_simp
       first | (rw [IntWalk.i64_in _ (by omega)]; omega) | (rw [IntWalk.i64_in _ (by omega)]) | omega
      try simp only [kO3, Act.put, sA, sZ, sS]
      refine wpAnyH_take (i := 4) (oi := kO4) (v := .string (s.extract N5 s.size)) rfl (by kernel_rfl) (by kernel_rfl) (by kernel_rfl) (fun _ _ _ h => h) (Or.inl ⟨by rfl, ?_⟩) hHeld ?_
      ·
       intro w hSw
       clear hSw
       try dsimp only [kO4]
       go_simp
       try rfl
      try simp only [kO4, Act.put, sA, sZ, sS]
      refine wpAnyH_take (i := 5) (oi := kO5) (v := ?_) rfl (by kernel_rfl) (by kernel_rfl) (by kernel_rfl) (fun _ _ _ h => h) (Or.inl ⟨by rfl, ?_⟩) hHeld ?_
      rotate_left
      ·
       intro w hSw
       clear hSw
       try dsimp only [kO5]
       go_simp
       try with_reducible rfl
      try simp only [kO5, Act.put, sA, sZ, sS]
      refine wpAnyH_take (i := 6) (oi := kO6) (v := ?_) rfl (by kernel_rfl) (by kernel_rfl) (by kernel_rfl) (fun _ _ _ h => h) (Or.inl ⟨by rfl, ?_⟩) hHeld ?_
      rotate_left
      ·
       intro w hSw
       clear hSw
       try dsimp only [kO6]
       go_simp
       try with_reducible rfl
      try simp only [kO6, Act.put, sA, sZ, sS]
      refine wpAnyH_take (i := 7) (oi := kO7) (v := ?_) rfl (by kernel_rfl) (by kernel_rfl) (by kernel_rfl) (fun _ _ _ h => h) (Or.inl ⟨by rfl, ?_⟩) hHeld ?_
      rotate_left
      ·
       intro w hSw
       clear hSw
       try dsimp only [kO7]
       go_simp
       try with_reducible rfl
      try simp only [kO7, Act.put, sA, sZ, sS]
      refine wpAnyH_ready (rs := [8]) (by as_aux_lemma => kernel_rfl) (by simp) ?_
      refine AllReadyH.cons (o := kO8) rfl (fun K hK => ?_) AllReadyH.nil
      dsimp only [kO8]
      go_simp
      refine (rhas_any A cap adds f _ (HI1.out.below hHeld (Nat.le_refl _))).mono ?_
      rintro e u1 ⟨rfl, hw⟩
      rw [hw]
      clear hw
      rw [HBB.out]
      go_wp2_with fail
      refine hK.out _ _ hHeld (fun hHeld => ?_)
      clear hK K
      try simp only [Act.put, sA, sZ, sS]
      refine wpAnyH_ready (rs := [9]) (by as_aux_lemma => kernel_rfl) (by simp) ?_
      refine AllReadyH.cons (o := kO9) rfl (fun K hK => ?_) AllReadyH.nil
      dsimp only [kO9]
      go_simp
      refine (HD.out _).mono ?_
      rintro e u2 ⟨hb, hm⟩
      rw [HDD.out] at hm
      obtain rfl : e = _ := hm
      go_wp2_with fail
      refine hK.out _ _ (hHeld.trans (hb.mono hHeld.size)) (fun hHeld => ?_)
      clear hK K
      have hv2 : Below w1.heap.size w1 u2 := (below_drewN (Below.refl w1.heap.size w1) 1).trans hb
      refine wpAnyH_more (S' := fun w' => Below u2.heap.size u2 w') (fun _ h => hHeld.trans (h.mono hHeld.size)) _ _ _ _ ?_
      clear hHeld hb
      have hHeld : Below u2.heap.size u2 u2 := (Below.refl _ _)
      try simp only [Act.put, sA, sZ, sS]
      refine wpAnyH_take (i := 10) (oi := kO10) (v := ?_) rfl (by kernel_rfl) (by kernel_rfl) (by kernel_rfl) (fun _ _ _ h => h) (Or.inl ⟨by rfl, ?_⟩) hHeld ?_
      rotate_left
      ·
       intro w hSw
       clear hSw
       try dsimp only [kO10]
       go_simp
       try with_reducible rfl
      try simp only [kO10, Act.put, sA, sZ, sS]
      refine wpAnyH_take (i := 11) (oi := kO11) (v := ?_) rfl (by kernel_rfl) (by kernel_rfl) (by kernel_rfl) (fun _ _ _ h => h) (Or.inl ⟨by rfl, ?_⟩) hHeld ?_
      rotate_left
      ·
       intro w hSw
       clear hSw
       try dsimp only [kO11]
       go_simp
       try with_reducible rfl
      try simp only [kO11, Act.put, sA, sZ, sS]
      refine wpAnyH_take (i := 12) (oi := kO12) (v := ?_) rfl (by kernel_rfl) (by kernel_rfl) (by kernel_rfl) (fun _ _ _ h => h) (Or.inl ⟨by rfl, ?_⟩) hHeld ?_
      rotate_left
      ·
       intro w hSw
       clear hSw
       try dsimp only [kO12]
       go_simp
       try with_reducible rfl
      try simp only [kO12, Act.put, sA, sZ, sS]
      refine wpAnyH_take (i := 13) (oi := kO13) (v := ?_) rfl (by kernel_rfl) (by kernel_rfl) (by kernel_rfl) (fun _ _ _ h => h) (Or.inl ⟨by rfl, ?_⟩) hHeld ?_
      rotate_left
      ·
       intro w hSw
       clear hSw
       try dsimp only [kO13]
       go_simp
       try with_reducible rfl
      try simp only [kO13, Act.put, sA, sZ, sS]
      refine wpAnyH_take (i := 14) (oi := kO14) (v := ?_) rfl (by kernel_rfl) (by kernel_rfl) (by kernel_rfl) (fun _ _ _ h => h) (Or.inl ⟨by rfl, ?_⟩) hHeld ?_
      rotate_left
      ·
       intro w hSw
       clear hSw
       try dsimp only [kO14]
       go_simp
       try with_reducible rfl
      try simp only [kO14, Act.put, sA, sZ, sS]
      refine wpAnyH_done (by as_aux_lemma => kernel_rfl) ?_ _
      have HB9 := Lib.hid (HB1.out.trans (hv2.mono HB1.out.size))
      clear hHeld
      go_wp2_with fail
      try simp only [Exit.inBlock, Exit.then]
      refine bodyPost_ret (results_tmp4 rfl _ _ _) rfl ?_
      exact TKPost.no HG.out rfl HB9.out
     | some L =>
      rw [hd] at hg
      have HG := Lib.hid hg
      have HDD := Lib.hid hd
      clear hg hd g3 g3' g4 g4'
      refine wp_region_held_drew (S := fun w' => Below w1.heap.size w1 w') (by kernel_rfl) (below_drewN (Below.refl _ _) 1) (fun hHeld => ?_)
      refine wpAnyH_take (i := 0) (oi := kO0) (v := ?_) rfl (by kernel_rfl) (by kernel_rfl) (by kernel_rfl) (fun _ _ _ h => h) (Or.inl ⟨by rfl, ?_⟩) hHeld ?_
      rotate_left
      ·
       intro w hSw
       clear hSw
       try dsimp only [kO0]
       go_simp
       try with_reducible rfl
      try simp only [kO0, Act.put, sA, sZ, sS]
      refine wpAnyH_take (i := 1) (oi := kO1) (v := ?_) rfl (by kernel_rfl) (by kernel_rfl) (by kernel_rfl) (fun _ _ _ h => h) (Or.inl ⟨by rfl, ?_⟩) hHeld ?_
      rotate_left
      ·
       intro w hSw
       clear hSw
       try dsimp only [kO1]
       go_simp
       try with_reducible rfl
      try simp only [kO1, Act.put, sA, sZ, sS]
      refine wpAnyH_take (i := 2) (oi := kO2) (v := .int .i64 (N4 : Nat)) rfl (by kernel_rfl) (by kernel_rfl) (by kernel_rfl) (fun _ _ _ h => h) (Or.inl ⟨by rfl, ?_⟩) hHeld ?_
      ·
       intro w hSw
       clear hSw
       try dsimp only [kO2]
       go_simp
       first | (rw [IntWalk.i64_in _ (by omega)]; omega) | (rw [IntWalk.i64_in _ (by omega)]) | omega
      try simp only [kO2, Act.put, sA, sZ, sS]
      refine wpAnyH_take (i := 3) (oi := kO3) (v := .int .i64 (N5 : Nat)) rfl (by kernel_rfl) (by kernel_rfl) (by kernel_rfl) (fun _ _ _ h => h) (Or.inl ⟨by rfl, ?_⟩) hHeld ?_
      ·
       intro w hSw
       clear hSw
       try dsimp only [kO3]
       go_simp
       first | (rw [IntWalk.i64_in _ (by omega)]; omega) | (rw [IntWalk.i64_in _ (by omega)]) | omega
      try simp only [kO3, Act.put, sA, sZ, sS]
      refine wpAnyH_take (i := 4) (oi := kO4) (v := .string (s.extract N5 s.size)) rfl (by kernel_rfl) (by kernel_rfl) (by kernel_rfl) (fun _ _ _ h => h) (Or.inl ⟨by rfl, ?_⟩) hHeld ?_
      ·
       intro w hSw
       clear hSw
       try dsimp only [kO4]
       go_simp
       try rfl
      try simp only [kO4, Act.put, sA, sZ, sS]
      refine wpAnyH_take (i := 5) (oi := kO5) (v := ?_) rfl (by kernel_rfl) (by kernel_rfl) (by kernel_rfl) (fun _ _ _ h => h) (Or.inl ⟨by rfl, ?_⟩) hHeld ?_
      rotate_left
      ·
       intro w hSw
       clear hSw
       try dsimp only [kO5]
       go_simp
       try with_reducible rfl
      try simp only [kO5, Act.put, sA, sZ, sS]
      refine wpAnyH_take (i := 6) (oi := kO6) (v := ?_) rfl (by kernel_rfl) (by kernel_rfl) (by kernel_rfl) (fun _ _ _ h => h) (Or.inl ⟨by rfl, ?_⟩) hHeld ?_
      rotate_left
      ·
       intro w hSw
       clear hSw
       try dsimp only [kO6]
       go_simp
       try with_reducible rfl
      try simp only [kO6, Act.put, sA, sZ, sS]
      refine wpAnyH_take (i := 7) (oi := kO7) (v := ?_) rfl (by kernel_rfl) (by kernel_rfl) (by kernel_rfl) (fun _ _ _ h => h) (Or.inl ⟨by rfl, ?_⟩) hHeld ?_
      rotate_left
      ·
       intro w hSw
       clear hSw
       try dsimp only [kO7]
       go_simp
       try with_reducible rfl
      try simp only [kO7, Act.put, sA, sZ, sS]
      refine wpAnyH_ready (rs := [8]) (by as_aux_lemma => kernel_rfl) (by simp) ?_
      refine AllReadyH.cons (o := kO8) rfl (fun K hK => ?_) AllReadyH.nil
      dsimp only [kO8]
      go_simp
      refine (rhas_any A cap adds f _ (HI1.out.below hHeld (Nat.le_refl _))).mono ?_
      rintro e u1 ⟨rfl, hw⟩
      rw [hw]
      clear hw
      rw [HBB.out]
      go_wp2_with fail
      refine hK.out _ _ hHeld (fun hHeld => ?_)
      clear hK K
      try simp only [Act.put, sA, sZ, sS]
      refine wpAnyH_ready (rs := [9]) (by as_aux_lemma => kernel_rfl) (by simp) ?_
      refine AllReadyH.cons (o := kO9) rfl (fun K hK => ?_) AllReadyH.nil
      dsimp only [kO9]
      go_simp
      refine (HD.out _).mono ?_
      rintro e u2 ⟨hb, hm⟩
      rw [HDD.out] at hm
      obtain ⟨v, rfl, ho⟩ := hm
      obtain ⟨A2, c2, rfl⟩ := OwnM.form ho
      go_wp2_with fail
      refine hK.out _ _ (hHeld.trans (hb.mono hHeld.size)) (fun hHeld => ?_)
      clear hK K
      have hv2 : Below w1.heap.size w1 u2 := (below_drewN (Below.refl w1.heap.size w1) 1).trans hb
      refine wpAnyH_more (S' := fun w' => Below u2.heap.size u2 w') (fun _ h => hHeld.trans (h.mono hHeld.size)) _ _ _ _ ?_
      clear hHeld hb
      have hHeld : Below u2.heap.size u2 u2 := (Below.refl _ _)
      try simp only [Act.put, sA, sZ, sS]
      refine wpAnyH_take (i := 10) (oi := kO10) (v := ?_) rfl (by kernel_rfl) (by kernel_rfl) (by kernel_rfl) (fun _ _ _ h => h) (Or.inl ⟨by rfl, ?_⟩) hHeld ?_
      rotate_left
      ·
       intro w hSw
       clear hSw
       try dsimp only [kO10]
       go_simp
       try with_reducible rfl
      try simp only [kO10, Act.put, sA, sZ, sS]
      refine wpAnyH_take (i := 11) (oi := kO11) (v := ?_) rfl (by kernel_rfl) (by kernel_rfl) (by kernel_rfl) (fun _ _ _ h => h) (Or.inl ⟨by rfl, ?_⟩) hHeld ?_
      rotate_left
      ·
       intro w hSw
       clear hSw
       try dsimp only [kO11]
       go_simp
       try with_reducible rfl
      try simp only [kO11, Act.put, sA, sZ, sS]
      refine wpAnyH_take (i := 12) (oi := kO12) (v := ?_) rfl (by kernel_rfl) (by kernel_rfl) (by kernel_rfl) (fun _ _ _ h => h) (Or.inl ⟨by rfl, ?_⟩) hHeld ?_
      rotate_left
      ·
       intro w hSw
       clear hSw
       try dsimp only [kO12]
       go_simp
       try with_reducible rfl
      try simp only [kO12, Act.put, sA, sZ, sS]
      refine wpAnyH_take (i := 13) (oi := kO13) (v := ?_) rfl (by kernel_rfl) (by kernel_rfl) (by kernel_rfl) (fun _ _ _ h => h) (Or.inl ⟨by rfl, ?_⟩) hHeld ?_
      rotate_left
      ·
       intro w hSw
       clear hSw
       try dsimp only [kO13]
       go_simp
       try with_reducible rfl
      try simp only [kO13, Act.put, sA, sZ, sS]
      refine wpAnyH_take (i := 14) (oi := kO14) (v := ?_) rfl (by kernel_rfl) (by kernel_rfl) (by kernel_rfl) (fun _ _ _ h => h) (Or.inl ⟨by rfl, ?_⟩) hHeld ?_
      rotate_left
      ·
       intro w hSw
       clear hSw
       try dsimp only [kO14]
       go_simp
       try with_reducible rfl
      try simp only [kO14, Act.put, sA, sZ, sS]
      refine wpAnyH_done (by as_aux_lemma => kernel_rfl) ?_ _
      have HB9 := Lib.hid (HB1.out.trans (hv2.mono HB1.out.size))
      have HO9 := Lib.hid (NlOwn.low ho (show w.heap.size ≤ w1.heap.size from HB1.out.size))
      clear hHeld ho
      go_wp2_with fail
      go_quiet (fail)
      go_wp2_with fail
      try simp only [Exit.inBlock, Exit.then]
      refine bodyPost_ret (results_tmp4 rfl _ _ _) rfl ?_
      exact TKPost.yes HG.out rfl HO9.out (below_drewN HB9.out nq)
    ·
     have g4 := toList_ne hz
     have g4' : ((hop.extract 0 zs.size).toList != zs.toList) = true := by rw [bne, g4]; rfl
     have HR := Lib.hid (HTB.out hz)
     clear hsz hz HTA HTB HTC
     go_wp2_with fail
     try simp only [Exit.inBlock, Exit.then]
     refine bodyPost_ret (results_tmp4 rfl _ _ _) rfl ?_
     exact TKPost.no HR.out rfl HB1.out
   ·
    have g3 : ((hop.size : Int) == (zs.size : Int) + sv) = false := by rw [beq_eq_false_iff_ne]; omega
    have g3' : ((hop.size : Int) != (zs.size : Int) + sv) = true := by rw [bne, g3]; rfl
    have HR := Lib.hid (HTA.out hsz)
    clear hsz HTA HTB HTC
    go_wp2_with fail
    try simp only [Exit.inBlock, Exit.then]
    refine bodyPost_ret (results_tmp4 rfl _ _ _) rfl ?_
    exact TKPost.no HR.out rfl HB1.out
end Go.Proofs.Ytocbacpbckejdaa
