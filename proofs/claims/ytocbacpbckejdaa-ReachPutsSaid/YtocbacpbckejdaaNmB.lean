/-
  Contracts of heraldref05.Four and heraldref07.one. Conditions: sizes.
-/
import Derived.Test.YtocbacpbckejdaaNmA
import Derived.BigRegion
import Derived.Test.YtocbacpbckejdaaNlW
set_option linter.unusedVariables false
set_option linter.unusedSimpArgs false
namespace Go.Proofs.Ytocbacpbckejdaa
open Go.RowKit

set_option maxRecDepth 100000 in
set_option maxHeartbeats 8000000 in
theorem rone_lai (fam rd : Int) (addr : ByteArray) (len id label : Int) (w : World) (x : UInt8) (F1 F3 FA FB : ByteArray) (S : ByteArray) (f1 : 1 ≤ fam) (f2 : fam ≤ 5) (r0 : 0 ≤ rd) (r1 : rd < 18446744073709551616) (l0 : 0 ≤ len) (l1 : len ≤ 128) (i0 : 0 ≤ id) (i1 : id < 4294967296) (b0 : 0 ≤ label) (b1 : label ≤ 1048575)
    (hlab : labB fam = false) (hap : apB fam = false) (hah : aheadV fam = 0) (hx : len + 0 = (x.toNat : Nat)) (hk0 : 0 ≤ (len + 7) / 8) (hks : (len + 7) / 8 ≤ (addr.size : Int)) (has : addr.size ≤ 16) (z1 : F1.size ≤ 4) (z3 : F3.size ≤ 3) (za : FA.size ≤ 4) (zb : FB.size ≤ 4)
    (hf1 : ∀ w, Calls Try.prog 67 #[.int .u32 id] w fun e w' => e = .returned (.string F1) ∧ Below w.heap.size w w')
    (hfa : ∀ w, Calls Try.prog 67 #[.int .u32 (rd / 4294967296)] w fun e w' => e = .returned (.string FA) ∧ Below w.heap.size w w')
    (hfb : ∀ w, Calls Try.prog 67 #[.int .u32 (rd % 4294967296)] w fun e w' => e = .returned (.string FB) ∧ Below w.heap.size w w')
    (hor : bits .or .u32 (label * 16) 1 = label * 16 + 1)
    (hf3 : ∀ u : World, (convert 52 9 (.slice (some ⟨u.heap.size, 0, none⟩) 3 3)).run Try.prog (u.alloc (.cells #[.int .u8 ((label * 16 + 1) / 65536), .int .u8 ((label * 16 + 1) / 256 % 256), .int .u8 ((label * 16 + 1) % 256)] 5)) = .ok (.string F3) (u.alloc (.cells #[.int .u8 ((label * 16 + 1) / 65536), .int .u8 ((label * 16 + 1) / 256 % 256), .int .u8 ((label * 16 + 1) % 256)] 5)))
    (hS : S = ⟨#[x]⟩ ++ addr.extract 0 ((len + 7) / 8).toNat) :
    Calls Try.prog 49 #[.agg #[.int .i64 fam, .int .u64 rd, .string addr, .int .i64 len, .int .u32 id, .int .u32 label], .bool false] w fun e w' => e = .returned (.string S) ∧ Below w.heap.size w w' := by
  have HLB : Hid (∀ w, Calls Try.prog 66 #[.int .i64 fam] w fun e w' => e = .returned (.bool false) ∧ w' = w) := fun w => hlab ▸ rlab_any fam w f1 f2
  have HAB : Hid (∀ w, Calls Try.prog 69 #[.int .i64 fam] w fun e w' => e = .returned (.bool false) ∧ w' = w) := fun w => hap ▸ rap_any fam w f1 f2
  have HAH : Hid (∀ w, Calls Try.prog 68 #[.int .i64 fam] w fun e w' => e = .returned (.int .i64 0) ∧ w' = w) := fun w => hah ▸ rahead_any fam w f1 f2
  have HF1 := Lib.hid hf1
  have HFA := Lib.hid hfa
  have HFB := Lib.hid hfb
  have HF3 := Lib.hid hf3
  have HOR := Lib.hid hor
  have HXB := Lib.hid hx
  have HS := Lib.hid hS
  clear hlab hap hah hf1 hfa hfb hf3 hor hx hS
  have HX0 : Hid (CellsAt (w.alloc (.cells #[.int .i64 fam, .int .u64 rd, .string addr, .int .i64 len, .int .u32 id, .int .u32 label] 47)) w.heap.size #[.int .i64 fam, .int .u64 rd, .string addr, .int .i64 len, .int .u32 id, .int .u32 label] 47) := CellsAt.new _ _ _
  have HB0 : Hid (Below w.heap.size w (w.alloc (.cells #[.int .i64 fam, .int .u64 rd, .string addr, .int .i64 len, .int .u32 id, .int .u32 label] 47))) := (Below.refl _ _).alloc (Nat.le_refl _) _
  go_enter Try.func49, Try.ntmps49
  go_wp2_with fail
  have HX := Lib.hid (HX0.out.alloc (.cells #[.int .i64 fam, .int .u64 rd, .string addr, .int .i64 len] 44))
  have HP : Hid (CellsAt ((w.alloc (.cells #[.int .i64 fam, .int .u64 rd, .string addr, .int .i64 len, .int .u32 id, .int .u32 label] 47)).alloc (.cells #[.int .i64 fam, .int .u64 rd, .string addr, .int .i64 len] 44)) (w.heap.size + 1) #[.int .i64 fam, .int .u64 rd, .string addr, .int .i64 len] 44) := by
    have h := CellsAt.new (w.alloc (.cells #[.int .i64 fam, .int .u64 rd, .string addr, .int .i64 len, .int .u32 id, .int .u32 label] 47)) #[.int .i64 fam, .int .u64 rd, .string addr, .int .i64 len] 44
    rwa [World.size_alloc] at h
  have HB : Hid (Below w.heap.size w ((w.alloc (.cells #[.int .i64 fam, .int .u64 rd, .string addr, .int .i64 len, .int .u32 id, .int .u32 label] 47)).alloc (.cells #[.int .i64 fam, .int .u64 rd, .string addr, .int .i64 len] 44))) := HB0.out.alloc (by simp) _
  clear HX0 HB0
  generalize (w.alloc (.cells #[.int .i64 fam, .int .u64 rd, .string addr, .int .i64 len, .int .u32 id, .int .u32 label] 47)).alloc (.cells #[.int .i64 fam, .int .u64 rd, .string addr, .int .i64 len] 44) = V at HX HP HB ⊢
  generalize w.heap.size + 1 = bp at HP ⊢
  have hpl := HP.out.lt
  have hxl := HX.out.lt
  refine wp_region_held_drew (S := fun w' => Below V.heap.size V w') (by kernel_rfl) (below_drewN (Below.refl _ _) 1) (fun hHeld => ?_)
  refine wpAnyH_take (i := 0) (oi := xO0) (v := ?_) rfl (by kernel_rfl) (by kernel_rfl) (by kernel_rfl) (fun _ _ _ h => h) (Or.inl ⟨by rfl, ?_⟩) hHeld ?_
  rotate_left
  · intro w hSw
    clear hSw
    try dsimp only [xO0]
    go_simp
    try with_reducible rfl
  try simp only [xO0, Act.put, List.setIfInBounds_toArray, List.set_cons_zero, List.set_cons_succ]
  refine wpAnyH_take (i := 1) (oi := xO1) (v := ?_) rfl (by kernel_rfl) (by kernel_rfl) (by kernel_rfl) (fun _ _ _ h => h) (Or.inl ⟨by rfl, ?_⟩) hHeld ?_
  rotate_left
  · intro w hSw
    clear hSw
    try dsimp only [xO1]
    go_simp
    try with_reducible rfl
  try simp only [xO1, Act.put, List.setIfInBounds_toArray, List.set_cons_zero, List.set_cons_succ]
  refine wpAnyH_take (i := 2) (oi := xO2) (v := ?_) rfl (by kernel_rfl) (by kernel_rfl) (by kernel_rfl) (fun _ _ _ h => h) (Or.inl ⟨by rfl, ?_⟩) hHeld ?_
  rotate_left
  · intro w hSw
    obtain ⟨q0, q1, q2, q3⟩ := (HP.out.below hSw hpl).c4
    clear hSw
    try dsimp only [xO2]
    go_simp
    try with_reducible rfl
  try simp only [xO2, Act.put, List.setIfInBounds_toArray, List.set_cons_zero, List.set_cons_succ]
  refine wpAnyH_take (i := 3) (oi := xO3) (v := ?_) rfl (by kernel_rfl) (by kernel_rfl) (by kernel_rfl) (fun _ _ _ h => h) (Or.inl ⟨by rfl, ?_⟩) hHeld ?_
  rotate_left
  · intro w hSw
    clear hSw
    try dsimp only [xO3]
    go_simp
    try with_reducible rfl
  try simp only [xO3, Act.put, List.setIfInBounds_toArray, List.set_cons_zero, List.set_cons_succ]
  refine wpAnyH_take (i := 4) (oi := xO4) (v := ?_) rfl (by kernel_rfl) (by kernel_rfl) (by kernel_rfl) (fun _ _ _ h => h) (Or.inl ⟨by rfl, ?_⟩) hHeld ?_
  rotate_left
  · intro w hSw
    obtain ⟨q0, q1, q2, q3⟩ := (HP.out.below hSw hpl).c4
    clear hSw
    try dsimp only [xO4]
    go_simp
    try with_reducible rfl
  try simp only [xO4, Act.put, List.setIfInBounds_toArray, List.set_cons_zero, List.set_cons_succ]
  refine wpAnyH_ready (rs := [5]) (by as_aux_lemma => kernel_rfl) (by simp) ?_
  refine AllReadyH.cons (o := xO5) rfl (fun K hK => ?_) AllReadyH.nil
  dsimp only [xO5]
  go_simp
  refine (HAH.out _).mono ?_
  rintro e u1 ⟨rfl, hw⟩
  rw [hw]
  clear hw
  go_wp2_with fail
  refine hK.out _ _ hHeld (fun hHeld => ?_)
  clear hK K
  try simp only [Act.put, List.setIfInBounds_toArray, List.set_cons_zero, List.set_cons_succ]
  refine wpAnyH_take (i := 6) (oi := xO6) (v := ?_) rfl (by kernel_rfl) (by kernel_rfl) (by kernel_rfl) (fun _ _ _ h => h) (Or.inl ⟨by rfl, ?_⟩) hHeld ?_
  rotate_left
  · intro w hSw
    clear hSw
    try dsimp only [xO6]
    go_simp
    try with_reducible rfl
  try simp only [xO6, Act.put, List.setIfInBounds_toArray, List.set_cons_zero, List.set_cons_succ]
  refine wpAnyH_take (i := 7) (oi := xO7) (v := .int .u8 (x.toNat : Nat)) rfl (by kernel_rfl) (by kernel_rfl) (by kernel_rfl) (fun _ _ _ h => h) (Or.inl ⟨by rfl, ?_⟩) hHeld ?_
  · intro w hSw
    clear hSw
    try dsimp only [xO7]
    go_simp
    rw [IntWalk.i64_in _ (by omega), IntWalk.u8_in _ (by have h := HXB.out; omega)]
    have h := HXB.out
    omega
  try simp only [xO7, Act.put, List.setIfInBounds_toArray, List.set_cons_zero, List.set_cons_succ]
  refine wpAnyH_ready (rs := [8]) (by as_aux_lemma => kernel_rfl) (by simp) ?_
  refine AllReadyH.cons (o := xO8) rfl (fun K hK => ?_) AllReadyH.nil
  refine wp_byte1 (by rfl) _ rfl x _ rfl rfl ?_
  intro u2 HC8 hb
  replace HC8 : CellsAt u2 V.heap.size _ _ := HC8
  refine hK.out _ _ (hHeld.trans (hb.mono hHeld.size)) (fun hHeld => ?_)
  clear hK K
  have hv2 : Below V.heap.size V u2 := (below_drewN (Below.refl V.heap.size V) 1).trans hb
  refine wpAnyH_more (S' := fun w' => Below u2.heap.size u2 w') (fun _ h => hHeld.trans (h.mono hHeld.size)) _ _ _ _ ?_
  clear hHeld hb
  have hHeld : Below u2.heap.size u2 u2 := Below.refl _ _
  try simp only [Act.put, List.setIfInBounds_toArray, List.set_cons_zero, List.set_cons_succ]
  refine wpAnyH_take (i := 9) (oi := xO9) (v := ?_) rfl (by kernel_rfl) (by kernel_rfl) (by kernel_rfl) (fun _ _ _ h => h) (Or.inl ⟨by rfl, ?_⟩) hHeld ?_
  rotate_left
  · intro w hSw
    have hc := conv_at (HC8.below hSw HC8.lt) (n := 1) (l := [x]) rfl
    clear hSw
    try dsimp only [xO9]
    go_simp
    try rw [hc]
    try with_reducible rfl
  try simp only [xO9, Act.put, List.setIfInBounds_toArray, List.set_cons_zero, List.set_cons_succ]
  refine wpAnyH_take (i := 10) (oi := xO10) (v := .string (⟨#[x]⟩)) rfl (by kernel_rfl) (by kernel_rfl) (by kernel_rfl) (fun _ _ _ h => h) (Or.inl ⟨by rfl, ?_⟩) hHeld ?_
  · intro w hSw
    clear hSw
    try dsimp only [xO10]
    go_simp
    first | rfl | omega | (rw [if_neg (by omega)])
  try simp only [xO10, Act.put, List.setIfInBounds_toArray, List.set_cons_zero, List.set_cons_succ]
  refine wpAnyH_take (i := 11) (oi := xO11) (v := ?_) rfl (by kernel_rfl) (by kernel_rfl) (by kernel_rfl) (fun _ _ _ h => h) (Or.inl ⟨by rfl, ?_⟩) hHeld ?_
  rotate_left
  · intro w hSw
    clear hSw
    try dsimp only [xO11]
    go_simp
    try with_reducible rfl
  try simp only [xO11, Act.put, List.setIfInBounds_toArray, List.set_cons_zero, List.set_cons_succ]
  refine wpAnyH_done (by as_aux_lemma => kernel_rfl) ?_ _
  have HX2 := Lib.hid (HX.out.below hv2 hxl)
  have HP2 := Lib.hid (HP.out.below hv2 hpl)
  have HB2 := Lib.hid (HB.out.trans (hv2.mono HB.out.size))
  clear hHeld HX HP HB
  have hpl2 := HP2.out.lt
  have hxl2 := HX2.out.lt
  obtain ⟨p0, p1, p2, p3⟩ := HP2.out.c4
  obtain ⟨c0, c1, c2, c3, c4, c5⟩ := HX2.out.c6
  go_wp2_with fail
  refine (HLB.out _).mono ?_
  rintro e w4 ⟨rfl, hw⟩
  rw [hw]
  clear hw
  go_wp2_with fail
  refine (HAB.out _).mono ?_
  rintro e w5 ⟨rfl, hw⟩
  rw [hw]
  clear hw
  go_wp2_with fail
  go_ret
  exact ⟨ret_val (val_str HS.out.symm), HB2.out⟩
set_option maxRecDepth 100000 in
set_option maxHeartbeats 8000000 in
theorem rone_laI (fam rd : Int) (addr : ByteArray) (len id label : Int) (w : World) (x : UInt8) (F1 F3 FA FB : ByteArray) (S : ByteArray) (f1 : 1 ≤ fam) (f2 : fam ≤ 5) (r0 : 0 ≤ rd) (r1 : rd < 18446744073709551616) (l0 : 0 ≤ len) (l1 : len ≤ 128) (i0 : 0 ≤ id) (i1 : id < 4294967296) (b0 : 0 ≤ label) (b1 : label ≤ 1048575)
    (hlab : labB fam = false) (hap : apB fam = false) (hah : aheadV fam = 0) (hx : len + 0 = (x.toNat : Nat)) (hk0 : 0 ≤ (len + 7) / 8) (hks : (len + 7) / 8 ≤ (addr.size : Int)) (has : addr.size ≤ 16) (z1 : F1.size ≤ 4) (z3 : F3.size ≤ 3) (za : FA.size ≤ 4) (zb : FB.size ≤ 4)
    (hf1 : ∀ w, Calls Try.prog 67 #[.int .u32 id] w fun e w' => e = .returned (.string F1) ∧ Below w.heap.size w w')
    (hfa : ∀ w, Calls Try.prog 67 #[.int .u32 (rd / 4294967296)] w fun e w' => e = .returned (.string FA) ∧ Below w.heap.size w w')
    (hfb : ∀ w, Calls Try.prog 67 #[.int .u32 (rd % 4294967296)] w fun e w' => e = .returned (.string FB) ∧ Below w.heap.size w w')
    (hor : bits .or .u32 (label * 16) 1 = label * 16 + 1)
    (hf3 : ∀ u : World, (convert 52 9 (.slice (some ⟨u.heap.size, 0, none⟩) 3 3)).run Try.prog (u.alloc (.cells #[.int .u8 ((label * 16 + 1) / 65536), .int .u8 ((label * 16 + 1) / 256 % 256), .int .u8 ((label * 16 + 1) % 256)] 5)) = .ok (.string F3) (u.alloc (.cells #[.int .u8 ((label * 16 + 1) / 65536), .int .u8 ((label * 16 + 1) / 256 % 256), .int .u8 ((label * 16 + 1) % 256)] 5)))
    (hS : S = F1 ++ ⟨#[x]⟩ ++ addr.extract 0 ((len + 7) / 8).toNat) :
    Calls Try.prog 49 #[.agg #[.int .i64 fam, .int .u64 rd, .string addr, .int .i64 len, .int .u32 id, .int .u32 label], .bool true] w fun e w' => e = .returned (.string S) ∧ Below w.heap.size w w' := by
  have HLB : Hid (∀ w, Calls Try.prog 66 #[.int .i64 fam] w fun e w' => e = .returned (.bool false) ∧ w' = w) := fun w => hlab ▸ rlab_any fam w f1 f2
  have HAB : Hid (∀ w, Calls Try.prog 69 #[.int .i64 fam] w fun e w' => e = .returned (.bool false) ∧ w' = w) := fun w => hap ▸ rap_any fam w f1 f2
  have HAH : Hid (∀ w, Calls Try.prog 68 #[.int .i64 fam] w fun e w' => e = .returned (.int .i64 0) ∧ w' = w) := fun w => hah ▸ rahead_any fam w f1 f2
  have HF1 := Lib.hid hf1
  have HFA := Lib.hid hfa
  have HFB := Lib.hid hfb
  have HF3 := Lib.hid hf3
  have HOR := Lib.hid hor
  have HXB := Lib.hid hx
  have HS := Lib.hid hS
  clear hlab hap hah hf1 hfa hfb hf3 hor hx hS
  have HX0 : Hid (CellsAt (w.alloc (.cells #[.int .i64 fam, .int .u64 rd, .string addr, .int .i64 len, .int .u32 id, .int .u32 label] 47)) w.heap.size #[.int .i64 fam, .int .u64 rd, .string addr, .int .i64 len, .int .u32 id, .int .u32 label] 47) := CellsAt.new _ _ _
  have HB0 : Hid (Below w.heap.size w (w.alloc (.cells #[.int .i64 fam, .int .u64 rd, .string addr, .int .i64 len, .int .u32 id, .int .u32 label] 47))) := (Below.refl _ _).alloc (Nat.le_refl _) _
  go_enter Try.func49, Try.ntmps49
  go_wp2_with fail
  refine (HF1.out _).mono ?_
  rintro e w1 ⟨rfl, hb⟩
  have HX1 := Lib.hid (HX0.out.below hb HX0.out.lt)
  have HBB := Lib.hid (HB0.out.trans (hb.mono HB0.out.size))
  clear hb HX0 HB0
  obtain ⟨c0, c1, c2, c3, c4, c5⟩ := HX1.out.c6
  go_wp2_with fail
  clear c0 c1 c2 c3 c4 c5
  have HX := Lib.hid (HX1.out.alloc (.cells #[.int .i64 fam, .int .u64 rd, .string addr, .int .i64 len] 44))
  have HP : Hid (CellsAt (w1.alloc (.cells #[.int .i64 fam, .int .u64 rd, .string addr, .int .i64 len] 44)) w1.heap.size #[.int .i64 fam, .int .u64 rd, .string addr, .int .i64 len] 44) := CellsAt.new _ _ _
  have HB : Hid (Below w.heap.size w (w1.alloc (.cells #[.int .i64 fam, .int .u64 rd, .string addr, .int .i64 len] 44))) := HBB.out.alloc HBB.out.size _
  clear HX1 HBB
  generalize w1.alloc (.cells #[.int .i64 fam, .int .u64 rd, .string addr, .int .i64 len] 44) = V at HX HP HB ⊢
  generalize w1.heap.size = bp at HP ⊢
  have hpl := HP.out.lt
  have hxl := HX.out.lt
  refine wp_region_held_drew (S := fun w' => Below V.heap.size V w') (by kernel_rfl) (below_drewN (Below.refl _ _) 1) (fun hHeld => ?_)
  refine wpAnyH_take (i := 0) (oi := xO0) (v := ?_) rfl (by kernel_rfl) (by kernel_rfl) (by kernel_rfl) (fun _ _ _ h => h) (Or.inl ⟨by rfl, ?_⟩) hHeld ?_
  rotate_left
  · intro w hSw
    clear hSw
    try dsimp only [xO0]
    go_simp
    try with_reducible rfl
  try simp only [xO0, Act.put, List.setIfInBounds_toArray, List.set_cons_zero, List.set_cons_succ]
  refine wpAnyH_take (i := 1) (oi := xO1) (v := ?_) rfl (by kernel_rfl) (by kernel_rfl) (by kernel_rfl) (fun _ _ _ h => h) (Or.inl ⟨by rfl, ?_⟩) hHeld ?_
  rotate_left
  · intro w hSw
    clear hSw
    try dsimp only [xO1]
    go_simp
    try with_reducible rfl
  try simp only [xO1, Act.put, List.setIfInBounds_toArray, List.set_cons_zero, List.set_cons_succ]
  refine wpAnyH_take (i := 2) (oi := xO2) (v := ?_) rfl (by kernel_rfl) (by kernel_rfl) (by kernel_rfl) (fun _ _ _ h => h) (Or.inl ⟨by rfl, ?_⟩) hHeld ?_
  rotate_left
  · intro w hSw
    obtain ⟨q0, q1, q2, q3⟩ := (HP.out.below hSw hpl).c4
    clear hSw
    try dsimp only [xO2]
    go_simp
    try with_reducible rfl
  try simp only [xO2, Act.put, List.setIfInBounds_toArray, List.set_cons_zero, List.set_cons_succ]
  refine wpAnyH_take (i := 3) (oi := xO3) (v := ?_) rfl (by kernel_rfl) (by kernel_rfl) (by kernel_rfl) (fun _ _ _ h => h) (Or.inl ⟨by rfl, ?_⟩) hHeld ?_
  rotate_left
  · intro w hSw
    clear hSw
    try dsimp only [xO3]
    go_simp
    try with_reducible rfl
  try simp only [xO3, Act.put, List.setIfInBounds_toArray, List.set_cons_zero, List.set_cons_succ]
  refine wpAnyH_take (i := 4) (oi := xO4) (v := ?_) rfl (by kernel_rfl) (by kernel_rfl) (by kernel_rfl) (fun _ _ _ h => h) (Or.inl ⟨by rfl, ?_⟩) hHeld ?_
  rotate_left
  · intro w hSw
    obtain ⟨q0, q1, q2, q3⟩ := (HP.out.below hSw hpl).c4
    clear hSw
    try dsimp only [xO4]
    go_simp
    try with_reducible rfl
  try simp only [xO4, Act.put, List.setIfInBounds_toArray, List.set_cons_zero, List.set_cons_succ]
  refine wpAnyH_ready (rs := [5]) (by as_aux_lemma => kernel_rfl) (by simp) ?_
  refine AllReadyH.cons (o := xO5) rfl (fun K hK => ?_) AllReadyH.nil
  dsimp only [xO5]
  go_simp
  refine (HAH.out _).mono ?_
  rintro e u1 ⟨rfl, hw⟩
  rw [hw]
  clear hw
  go_wp2_with fail
  refine hK.out _ _ hHeld (fun hHeld => ?_)
  clear hK K
  try simp only [Act.put, List.setIfInBounds_toArray, List.set_cons_zero, List.set_cons_succ]
  refine wpAnyH_take (i := 6) (oi := xO6) (v := ?_) rfl (by kernel_rfl) (by kernel_rfl) (by kernel_rfl) (fun _ _ _ h => h) (Or.inl ⟨by rfl, ?_⟩) hHeld ?_
  rotate_left
  · intro w hSw
    clear hSw
    try dsimp only [xO6]
    go_simp
    try with_reducible rfl
  try simp only [xO6, Act.put, List.setIfInBounds_toArray, List.set_cons_zero, List.set_cons_succ]
  refine wpAnyH_take (i := 7) (oi := xO7) (v := .int .u8 (x.toNat : Nat)) rfl (by kernel_rfl) (by kernel_rfl) (by kernel_rfl) (fun _ _ _ h => h) (Or.inl ⟨by rfl, ?_⟩) hHeld ?_
  · intro w hSw
    clear hSw
    try dsimp only [xO7]
    go_simp
    rw [IntWalk.i64_in _ (by omega), IntWalk.u8_in _ (by have h := HXB.out; omega)]
    have h := HXB.out
    omega
  try simp only [xO7, Act.put, List.setIfInBounds_toArray, List.set_cons_zero, List.set_cons_succ]
  refine wpAnyH_ready (rs := [8]) (by as_aux_lemma => kernel_rfl) (by simp) ?_
  refine AllReadyH.cons (o := xO8) rfl (fun K hK => ?_) AllReadyH.nil
  refine wp_byte1 (by rfl) _ rfl x _ rfl rfl ?_
  intro u2 HC8 hb
  replace HC8 : CellsAt u2 V.heap.size _ _ := HC8
  refine hK.out _ _ (hHeld.trans (hb.mono hHeld.size)) (fun hHeld => ?_)
  clear hK K
  have hv2 : Below V.heap.size V u2 := (below_drewN (Below.refl V.heap.size V) 1).trans hb
  refine wpAnyH_more (S' := fun w' => Below u2.heap.size u2 w') (fun _ h => hHeld.trans (h.mono hHeld.size)) _ _ _ _ ?_
  clear hHeld hb
  have hHeld : Below u2.heap.size u2 u2 := Below.refl _ _
  try simp only [Act.put, List.setIfInBounds_toArray, List.set_cons_zero, List.set_cons_succ]
  refine wpAnyH_take (i := 9) (oi := xO9) (v := ?_) rfl (by kernel_rfl) (by kernel_rfl) (by kernel_rfl) (fun _ _ _ h => h) (Or.inl ⟨by rfl, ?_⟩) hHeld ?_
  rotate_left
  · intro w hSw
    have hc := conv_at (HC8.below hSw HC8.lt) (n := 1) (l := [x]) rfl
    clear hSw
    try dsimp only [xO9]
    go_simp
    try rw [hc]
    try with_reducible rfl
  try simp only [xO9, Act.put, List.setIfInBounds_toArray, List.set_cons_zero, List.set_cons_succ]
  refine wpAnyH_take (i := 10) (oi := xO10) (v := .string (F1 ++ ⟨#[x]⟩)) rfl (by kernel_rfl) (by kernel_rfl) (by kernel_rfl) (fun _ _ _ h => h) (Or.inl ⟨by rfl, ?_⟩) hHeld ?_
  · intro w hSw
    clear hSw
    try dsimp only [xO10]
    go_simp
    first | rfl | omega | (rw [if_neg (by omega)])
  try simp only [xO10, Act.put, List.setIfInBounds_toArray, List.set_cons_zero, List.set_cons_succ]
  refine wpAnyH_take (i := 11) (oi := xO11) (v := ?_) rfl (by kernel_rfl) (by kernel_rfl) (by kernel_rfl) (fun _ _ _ h => h) (Or.inl ⟨by rfl, ?_⟩) hHeld ?_
  rotate_left
  · intro w hSw
    clear hSw
    try dsimp only [xO11]
    go_simp
    try with_reducible rfl
  try simp only [xO11, Act.put, List.setIfInBounds_toArray, List.set_cons_zero, List.set_cons_succ]
  refine wpAnyH_done (by as_aux_lemma => kernel_rfl) ?_ _
  have HX2 := Lib.hid (HX.out.below hv2 hxl)
  have HP2 := Lib.hid (HP.out.below hv2 hpl)
  have HB2 := Lib.hid (HB.out.trans (hv2.mono HB.out.size))
  clear hHeld HX HP HB
  have hpl2 := HP2.out.lt
  have hxl2 := HX2.out.lt
  obtain ⟨p0, p1, p2, p3⟩ := HP2.out.c4
  obtain ⟨c0, c1, c2, c3, c4, c5⟩ := HX2.out.c6
  go_wp2_with fail
  refine (HLB.out _).mono ?_
  rintro e w4 ⟨rfl, hw⟩
  rw [hw]
  clear hw
  go_wp2_with fail
  refine (HAB.out _).mono ?_
  rintro e w5 ⟨rfl, hw⟩
  rw [hw]
  clear hw
  go_wp2_with fail
  go_ret
  exact ⟨ret_val (val_str HS.out.symm), HB2.out⟩
set_option maxRecDepth 100000 in
set_option maxHeartbeats 8000000 in
theorem rone_Lai (fam rd : Int) (addr : ByteArray) (len id label : Int) (w : World) (x : UInt8) (F1 F3 FA FB : ByteArray) (S : ByteArray) (f1 : 1 ≤ fam) (f2 : fam ≤ 5) (r0 : 0 ≤ rd) (r1 : rd < 18446744073709551616) (l0 : 0 ≤ len) (l1 : len ≤ 128) (i0 : 0 ≤ id) (i1 : id < 4294967296) (b0 : 0 ≤ label) (b1 : label ≤ 1048575)
    (hlab : labB fam = true) (hap : apB fam = false) (hah : aheadV fam = 24) (hx : len + 24 = (x.toNat : Nat)) (hk0 : 0 ≤ (len + 7) / 8) (hks : (len + 7) / 8 ≤ (addr.size : Int)) (has : addr.size ≤ 16) (z1 : F1.size ≤ 4) (z3 : F3.size ≤ 3) (za : FA.size ≤ 4) (zb : FB.size ≤ 4)
    (hf1 : ∀ w, Calls Try.prog 67 #[.int .u32 id] w fun e w' => e = .returned (.string F1) ∧ Below w.heap.size w w')
    (hfa : ∀ w, Calls Try.prog 67 #[.int .u32 (rd / 4294967296)] w fun e w' => e = .returned (.string FA) ∧ Below w.heap.size w w')
    (hfb : ∀ w, Calls Try.prog 67 #[.int .u32 (rd % 4294967296)] w fun e w' => e = .returned (.string FB) ∧ Below w.heap.size w w')
    (hor : bits .or .u32 (label * 16) 1 = label * 16 + 1)
    (hf3 : ∀ u : World, (convert 52 9 (.slice (some ⟨u.heap.size, 0, none⟩) 3 3)).run Try.prog (u.alloc (.cells #[.int .u8 ((label * 16 + 1) / 65536), .int .u8 ((label * 16 + 1) / 256 % 256), .int .u8 ((label * 16 + 1) % 256)] 5)) = .ok (.string F3) (u.alloc (.cells #[.int .u8 ((label * 16 + 1) / 65536), .int .u8 ((label * 16 + 1) / 256 % 256), .int .u8 ((label * 16 + 1) % 256)] 5)))
    (hS : S = ⟨#[x]⟩ ++ F3 ++ addr.extract 0 ((len + 7) / 8).toNat) :
    Calls Try.prog 49 #[.agg #[.int .i64 fam, .int .u64 rd, .string addr, .int .i64 len, .int .u32 id, .int .u32 label], .bool false] w fun e w' => e = .returned (.string S) ∧ Below w.heap.size w w' := by
  have HLB : Hid (∀ w, Calls Try.prog 66 #[.int .i64 fam] w fun e w' => e = .returned (.bool true) ∧ w' = w) := fun w => hlab ▸ rlab_any fam w f1 f2
  have HAB : Hid (∀ w, Calls Try.prog 69 #[.int .i64 fam] w fun e w' => e = .returned (.bool false) ∧ w' = w) := fun w => hap ▸ rap_any fam w f1 f2
  have HAH : Hid (∀ w, Calls Try.prog 68 #[.int .i64 fam] w fun e w' => e = .returned (.int .i64 24) ∧ w' = w) := fun w => hah ▸ rahead_any fam w f1 f2
  have HF1 := Lib.hid hf1
  have HFA := Lib.hid hfa
  have HFB := Lib.hid hfb
  have HF3 := Lib.hid hf3
  have HOR := Lib.hid hor
  have HXB := Lib.hid hx
  have HS := Lib.hid hS
  clear hlab hap hah hf1 hfa hfb hf3 hor hx hS
  have HX0 : Hid (CellsAt (w.alloc (.cells #[.int .i64 fam, .int .u64 rd, .string addr, .int .i64 len, .int .u32 id, .int .u32 label] 47)) w.heap.size #[.int .i64 fam, .int .u64 rd, .string addr, .int .i64 len, .int .u32 id, .int .u32 label] 47) := CellsAt.new _ _ _
  have HB0 : Hid (Below w.heap.size w (w.alloc (.cells #[.int .i64 fam, .int .u64 rd, .string addr, .int .i64 len, .int .u32 id, .int .u32 label] 47))) := (Below.refl _ _).alloc (Nat.le_refl _) _
  go_enter Try.func49, Try.ntmps49
  go_wp2_with fail
  have HX := Lib.hid (HX0.out.alloc (.cells #[.int .i64 fam, .int .u64 rd, .string addr, .int .i64 len] 44))
  have HP : Hid (CellsAt ((w.alloc (.cells #[.int .i64 fam, .int .u64 rd, .string addr, .int .i64 len, .int .u32 id, .int .u32 label] 47)).alloc (.cells #[.int .i64 fam, .int .u64 rd, .string addr, .int .i64 len] 44)) (w.heap.size + 1) #[.int .i64 fam, .int .u64 rd, .string addr, .int .i64 len] 44) := by
    have h := CellsAt.new (w.alloc (.cells #[.int .i64 fam, .int .u64 rd, .string addr, .int .i64 len, .int .u32 id, .int .u32 label] 47)) #[.int .i64 fam, .int .u64 rd, .string addr, .int .i64 len] 44
    rwa [World.size_alloc] at h
  have HB : Hid (Below w.heap.size w ((w.alloc (.cells #[.int .i64 fam, .int .u64 rd, .string addr, .int .i64 len, .int .u32 id, .int .u32 label] 47)).alloc (.cells #[.int .i64 fam, .int .u64 rd, .string addr, .int .i64 len] 44))) := HB0.out.alloc (by simp) _
  clear HX0 HB0
  generalize (w.alloc (.cells #[.int .i64 fam, .int .u64 rd, .string addr, .int .i64 len, .int .u32 id, .int .u32 label] 47)).alloc (.cells #[.int .i64 fam, .int .u64 rd, .string addr, .int .i64 len] 44) = V at HX HP HB ⊢
  generalize w.heap.size + 1 = bp at HP ⊢
  have hpl := HP.out.lt
  have hxl := HX.out.lt
  refine wp_region_held_drew (S := fun w' => Below V.heap.size V w') (by kernel_rfl) (below_drewN (Below.refl _ _) 1) (fun hHeld => ?_)
  refine wpAnyH_take (i := 0) (oi := xO0) (v := ?_) rfl (by kernel_rfl) (by kernel_rfl) (by kernel_rfl) (fun _ _ _ h => h) (Or.inl ⟨by rfl, ?_⟩) hHeld ?_
  rotate_left
  · intro w hSw
    clear hSw
    try dsimp only [xO0]
    go_simp
    try with_reducible rfl
  try simp only [xO0, Act.put, List.setIfInBounds_toArray, List.set_cons_zero, List.set_cons_succ]
  refine wpAnyH_take (i := 1) (oi := xO1) (v := ?_) rfl (by kernel_rfl) (by kernel_rfl) (by kernel_rfl) (fun _ _ _ h => h) (Or.inl ⟨by rfl, ?_⟩) hHeld ?_
  rotate_left
  · intro w hSw
    clear hSw
    try dsimp only [xO1]
    go_simp
    try with_reducible rfl
  try simp only [xO1, Act.put, List.setIfInBounds_toArray, List.set_cons_zero, List.set_cons_succ]
  refine wpAnyH_take (i := 2) (oi := xO2) (v := ?_) rfl (by kernel_rfl) (by kernel_rfl) (by kernel_rfl) (fun _ _ _ h => h) (Or.inl ⟨by rfl, ?_⟩) hHeld ?_
  rotate_left
  · intro w hSw
    obtain ⟨q0, q1, q2, q3⟩ := (HP.out.below hSw hpl).c4
    clear hSw
    try dsimp only [xO2]
    go_simp
    try with_reducible rfl
  try simp only [xO2, Act.put, List.setIfInBounds_toArray, List.set_cons_zero, List.set_cons_succ]
  refine wpAnyH_take (i := 3) (oi := xO3) (v := ?_) rfl (by kernel_rfl) (by kernel_rfl) (by kernel_rfl) (fun _ _ _ h => h) (Or.inl ⟨by rfl, ?_⟩) hHeld ?_
  rotate_left
  · intro w hSw
    clear hSw
    try dsimp only [xO3]
    go_simp
    try with_reducible rfl
  try simp only [xO3, Act.put, List.setIfInBounds_toArray, List.set_cons_zero, List.set_cons_succ]
  refine wpAnyH_take (i := 4) (oi := xO4) (v := ?_) rfl (by kernel_rfl) (by kernel_rfl) (by kernel_rfl) (fun _ _ _ h => h) (Or.inl ⟨by rfl, ?_⟩) hHeld ?_
  rotate_left
  · intro w hSw
    obtain ⟨q0, q1, q2, q3⟩ := (HP.out.below hSw hpl).c4
    clear hSw
    try dsimp only [xO4]
    go_simp
    try with_reducible rfl
  try simp only [xO4, Act.put, List.setIfInBounds_toArray, List.set_cons_zero, List.set_cons_succ]
  refine wpAnyH_ready (rs := [5]) (by as_aux_lemma => kernel_rfl) (by simp) ?_
  refine AllReadyH.cons (o := xO5) rfl (fun K hK => ?_) AllReadyH.nil
  dsimp only [xO5]
  go_simp
  refine (HAH.out _).mono ?_
  rintro e u1 ⟨rfl, hw⟩
  rw [hw]
  clear hw
  go_wp2_with fail
  refine hK.out _ _ hHeld (fun hHeld => ?_)
  clear hK K
  try simp only [Act.put, List.setIfInBounds_toArray, List.set_cons_zero, List.set_cons_succ]
  refine wpAnyH_take (i := 6) (oi := xO6) (v := ?_) rfl (by kernel_rfl) (by kernel_rfl) (by kernel_rfl) (fun _ _ _ h => h) (Or.inl ⟨by rfl, ?_⟩) hHeld ?_
  rotate_left
  · intro w hSw
    clear hSw
    try dsimp only [xO6]
    go_simp
    try with_reducible rfl
  try simp only [xO6, Act.put, List.setIfInBounds_toArray, List.set_cons_zero, List.set_cons_succ]
  refine wpAnyH_take (i := 7) (oi := xO7) (v := .int .u8 (x.toNat : Nat)) rfl (by kernel_rfl) (by kernel_rfl) (by kernel_rfl) (fun _ _ _ h => h) (Or.inl ⟨by rfl, ?_⟩) hHeld ?_
  · intro w hSw
    clear hSw
    try dsimp only [xO7]
    go_simp
    rw [IntWalk.i64_in _ (by omega), IntWalk.u8_in _ (by have h := HXB.out; omega)]
    have h := HXB.out
    omega
  try simp only [xO7, Act.put, List.setIfInBounds_toArray, List.set_cons_zero, List.set_cons_succ]
  refine wpAnyH_ready (rs := [8]) (by as_aux_lemma => kernel_rfl) (by simp) ?_
  refine AllReadyH.cons (o := xO8) rfl (fun K hK => ?_) AllReadyH.nil
  refine wp_byte1 (by rfl) _ rfl x _ rfl rfl ?_
  intro u2 HC8 hb
  replace HC8 : CellsAt u2 V.heap.size _ _ := HC8
  refine hK.out _ _ (hHeld.trans (hb.mono hHeld.size)) (fun hHeld => ?_)
  clear hK K
  have hv2 : Below V.heap.size V u2 := (below_drewN (Below.refl V.heap.size V) 1).trans hb
  refine wpAnyH_more (S' := fun w' => Below u2.heap.size u2 w') (fun _ h => hHeld.trans (h.mono hHeld.size)) _ _ _ _ ?_
  clear hHeld hb
  have hHeld : Below u2.heap.size u2 u2 := Below.refl _ _
  try simp only [Act.put, List.setIfInBounds_toArray, List.set_cons_zero, List.set_cons_succ]
  refine wpAnyH_take (i := 9) (oi := xO9) (v := ?_) rfl (by kernel_rfl) (by kernel_rfl) (by kernel_rfl) (fun _ _ _ h => h) (Or.inl ⟨by rfl, ?_⟩) hHeld ?_
  rotate_left
  · intro w hSw
    have hc := conv_at (HC8.below hSw HC8.lt) (n := 1) (l := [x]) rfl
    clear hSw
    try dsimp only [xO9]
    go_simp
    try rw [hc]
    try with_reducible rfl
  try simp only [xO9, Act.put, List.setIfInBounds_toArray, List.set_cons_zero, List.set_cons_succ]
  refine wpAnyH_take (i := 10) (oi := xO10) (v := .string (⟨#[x]⟩)) rfl (by kernel_rfl) (by kernel_rfl) (by kernel_rfl) (fun _ _ _ h => h) (Or.inl ⟨by rfl, ?_⟩) hHeld ?_
  · intro w hSw
    clear hSw
    try dsimp only [xO10]
    go_simp
    first | rfl | omega | (rw [if_neg (by omega)])
  try simp only [xO10, Act.put, List.setIfInBounds_toArray, List.set_cons_zero, List.set_cons_succ]
  refine wpAnyH_take (i := 11) (oi := xO11) (v := ?_) rfl (by kernel_rfl) (by kernel_rfl) (by kernel_rfl) (fun _ _ _ h => h) (Or.inl ⟨by rfl, ?_⟩) hHeld ?_
  rotate_left
  · intro w hSw
    clear hSw
    try dsimp only [xO11]
    go_simp
    try with_reducible rfl
  try simp only [xO11, Act.put, List.setIfInBounds_toArray, List.set_cons_zero, List.set_cons_succ]
  refine wpAnyH_done (by as_aux_lemma => kernel_rfl) ?_ _
  have HX2 := Lib.hid (HX.out.below hv2 hxl)
  have HP2 := Lib.hid (HP.out.below hv2 hpl)
  have HB2 := Lib.hid (HB.out.trans (hv2.mono HB.out.size))
  clear hHeld HX HP HB
  have hpl2 := HP2.out.lt
  have hxl2 := HX2.out.lt
  obtain ⟨p0, p1, p2, p3⟩ := HP2.out.c4
  obtain ⟨c0, c1, c2, c3, c4, c5⟩ := HX2.out.c6
  go_wp2_with fail
  refine (HLB.out _).mono ?_
  rintro e w4 ⟨rfl, hw⟩
  rw [hw]
  clear hw
  have h3 := HF3.out u2
  have hor := HOR.out
  go_wp2_with fail
  clear h3 hor p0 p1 p2 p3 c0 c1 c2 c3 c4 c5
  have HX3 := Lib.hid (HX2.out.alloc (.cells #[.int .u8 ((label * 16 + 1) / 65536), .int .u8 ((label * 16 + 1) / 256 % 256), .int .u8 ((label * 16 + 1) % 256)] 5))
  have HP3 := Lib.hid (HP2.out.alloc (.cells #[.int .u8 ((label * 16 + 1) / 65536), .int .u8 ((label * 16 + 1) / 256 % 256), .int .u8 ((label * 16 + 1) % 256)] 5))
  have HB3 := Lib.hid (HB2.out.alloc HB2.out.size (.cells #[.int .u8 ((label * 16 + 1) / 65536), .int .u8 ((label * 16 + 1) / 256 % 256), .int .u8 ((label * 16 + 1) % 256)] 5))
  clear HX2 HP2 HB2
  generalize u2.alloc (.cells #[.int .u8 ((label * 16 + 1) / 65536), .int .u8 ((label * 16 + 1) / 256 % 256), .int .u8 ((label * 16 + 1) % 256)] 5) = V3 at HX3 HP3 HB3 hpl2 hxl2 ⊢
  have hpl3 := HP3.out.lt
  obtain ⟨p0, p1, p2, p3⟩ := HP3.out.c4
  try go_wp2_with fail
  refine (HAB.out _).mono ?_
  rintro e w5 ⟨rfl, hw⟩
  rw [hw]
  clear hw
  go_wp2_with fail
  go_wp2_with fail
  go_ret
  exact ⟨ret_val (val_str HS.out.symm), HB3.out⟩
set_option maxRecDepth 100000 in
set_option maxHeartbeats 8000000 in
theorem rone_LaI (fam rd : Int) (addr : ByteArray) (len id label : Int) (w : World) (x : UInt8) (F1 F3 FA FB : ByteArray) (S : ByteArray) (f1 : 1 ≤ fam) (f2 : fam ≤ 5) (r0 : 0 ≤ rd) (r1 : rd < 18446744073709551616) (l0 : 0 ≤ len) (l1 : len ≤ 128) (i0 : 0 ≤ id) (i1 : id < 4294967296) (b0 : 0 ≤ label) (b1 : label ≤ 1048575)
    (hlab : labB fam = true) (hap : apB fam = false) (hah : aheadV fam = 24) (hx : len + 24 = (x.toNat : Nat)) (hk0 : 0 ≤ (len + 7) / 8) (hks : (len + 7) / 8 ≤ (addr.size : Int)) (has : addr.size ≤ 16) (z1 : F1.size ≤ 4) (z3 : F3.size ≤ 3) (za : FA.size ≤ 4) (zb : FB.size ≤ 4)
    (hf1 : ∀ w, Calls Try.prog 67 #[.int .u32 id] w fun e w' => e = .returned (.string F1) ∧ Below w.heap.size w w')
    (hfa : ∀ w, Calls Try.prog 67 #[.int .u32 (rd / 4294967296)] w fun e w' => e = .returned (.string FA) ∧ Below w.heap.size w w')
    (hfb : ∀ w, Calls Try.prog 67 #[.int .u32 (rd % 4294967296)] w fun e w' => e = .returned (.string FB) ∧ Below w.heap.size w w')
    (hor : bits .or .u32 (label * 16) 1 = label * 16 + 1)
    (hf3 : ∀ u : World, (convert 52 9 (.slice (some ⟨u.heap.size, 0, none⟩) 3 3)).run Try.prog (u.alloc (.cells #[.int .u8 ((label * 16 + 1) / 65536), .int .u8 ((label * 16 + 1) / 256 % 256), .int .u8 ((label * 16 + 1) % 256)] 5)) = .ok (.string F3) (u.alloc (.cells #[.int .u8 ((label * 16 + 1) / 65536), .int .u8 ((label * 16 + 1) / 256 % 256), .int .u8 ((label * 16 + 1) % 256)] 5)))
    (hS : S = F1 ++ ⟨#[x]⟩ ++ F3 ++ addr.extract 0 ((len + 7) / 8).toNat) :
    Calls Try.prog 49 #[.agg #[.int .i64 fam, .int .u64 rd, .string addr, .int .i64 len, .int .u32 id, .int .u32 label], .bool true] w fun e w' => e = .returned (.string S) ∧ Below w.heap.size w w' := by
  have HLB : Hid (∀ w, Calls Try.prog 66 #[.int .i64 fam] w fun e w' => e = .returned (.bool true) ∧ w' = w) := fun w => hlab ▸ rlab_any fam w f1 f2
  have HAB : Hid (∀ w, Calls Try.prog 69 #[.int .i64 fam] w fun e w' => e = .returned (.bool false) ∧ w' = w) := fun w => hap ▸ rap_any fam w f1 f2
  have HAH : Hid (∀ w, Calls Try.prog 68 #[.int .i64 fam] w fun e w' => e = .returned (.int .i64 24) ∧ w' = w) := fun w => hah ▸ rahead_any fam w f1 f2
  have HF1 := Lib.hid hf1
  have HFA := Lib.hid hfa
  have HFB := Lib.hid hfb
  have HF3 := Lib.hid hf3
  have HOR := Lib.hid hor
  have HXB := Lib.hid hx
  have HS := Lib.hid hS
  clear hlab hap hah hf1 hfa hfb hf3 hor hx hS
  have HX0 : Hid (CellsAt (w.alloc (.cells #[.int .i64 fam, .int .u64 rd, .string addr, .int .i64 len, .int .u32 id, .int .u32 label] 47)) w.heap.size #[.int .i64 fam, .int .u64 rd, .string addr, .int .i64 len, .int .u32 id, .int .u32 label] 47) := CellsAt.new _ _ _
  have HB0 : Hid (Below w.heap.size w (w.alloc (.cells #[.int .i64 fam, .int .u64 rd, .string addr, .int .i64 len, .int .u32 id, .int .u32 label] 47))) := (Below.refl _ _).alloc (Nat.le_refl _) _
  go_enter Try.func49, Try.ntmps49
  go_wp2_with fail
  refine (HF1.out _).mono ?_
  rintro e w1 ⟨rfl, hb⟩
  have HX1 := Lib.hid (HX0.out.below hb HX0.out.lt)
  have HBB := Lib.hid (HB0.out.trans (hb.mono HB0.out.size))
  clear hb HX0 HB0
  obtain ⟨c0, c1, c2, c3, c4, c5⟩ := HX1.out.c6
  go_wp2_with fail
  clear c0 c1 c2 c3 c4 c5
  have HX := Lib.hid (HX1.out.alloc (.cells #[.int .i64 fam, .int .u64 rd, .string addr, .int .i64 len] 44))
  have HP : Hid (CellsAt (w1.alloc (.cells #[.int .i64 fam, .int .u64 rd, .string addr, .int .i64 len] 44)) w1.heap.size #[.int .i64 fam, .int .u64 rd, .string addr, .int .i64 len] 44) := CellsAt.new _ _ _
  have HB : Hid (Below w.heap.size w (w1.alloc (.cells #[.int .i64 fam, .int .u64 rd, .string addr, .int .i64 len] 44))) := HBB.out.alloc HBB.out.size _
  clear HX1 HBB
  generalize w1.alloc (.cells #[.int .i64 fam, .int .u64 rd, .string addr, .int .i64 len] 44) = V at HX HP HB ⊢
  generalize w1.heap.size = bp at HP ⊢
  have hpl := HP.out.lt
  have hxl := HX.out.lt
  refine wp_region_held_drew (S := fun w' => Below V.heap.size V w') (by kernel_rfl) (below_drewN (Below.refl _ _) 1) (fun hHeld => ?_)
  refine wpAnyH_take (i := 0) (oi := xO0) (v := ?_) rfl (by kernel_rfl) (by kernel_rfl) (by kernel_rfl) (fun _ _ _ h => h) (Or.inl ⟨by rfl, ?_⟩) hHeld ?_
  rotate_left
  · intro w hSw
    clear hSw
    try dsimp only [xO0]
    go_simp
    try with_reducible rfl
  try simp only [xO0, Act.put, List.setIfInBounds_toArray, List.set_cons_zero, List.set_cons_succ]
  refine wpAnyH_take (i := 1) (oi := xO1) (v := ?_) rfl (by kernel_rfl) (by kernel_rfl) (by kernel_rfl) (fun _ _ _ h => h) (Or.inl ⟨by rfl, ?_⟩) hHeld ?_
  rotate_left
  · intro w hSw
    clear hSw
    try dsimp only [xO1]
    go_simp
    try with_reducible rfl
  try simp only [xO1, Act.put, List.setIfInBounds_toArray, List.set_cons_zero, List.set_cons_succ]
  refine wpAnyH_take (i := 2) (oi := xO2) (v := ?_) rfl (by kernel_rfl) (by kernel_rfl) (by kernel_rfl) (fun _ _ _ h => h) (Or.inl ⟨by rfl, ?_⟩) hHeld ?_
  rotate_left
  · intro w hSw
    obtain ⟨q0, q1, q2, q3⟩ := (HP.out.below hSw hpl).c4
    clear hSw
    try dsimp only [xO2]
    go_simp
    try with_reducible rfl
  try simp only [xO2, Act.put, List.setIfInBounds_toArray, List.set_cons_zero, List.set_cons_succ]
  refine wpAnyH_take (i := 3) (oi := xO3) (v := ?_) rfl (by kernel_rfl) (by kernel_rfl) (by kernel_rfl) (fun _ _ _ h => h) (Or.inl ⟨by rfl, ?_⟩) hHeld ?_
  rotate_left
  · intro w hSw
    clear hSw
    try dsimp only [xO3]
    go_simp
    try with_reducible rfl
  try simp only [xO3, Act.put, List.setIfInBounds_toArray, List.set_cons_zero, List.set_cons_succ]
  refine wpAnyH_take (i := 4) (oi := xO4) (v := ?_) rfl (by kernel_rfl) (by kernel_rfl) (by kernel_rfl) (fun _ _ _ h => h) (Or.inl ⟨by rfl, ?_⟩) hHeld ?_
  rotate_left
  · intro w hSw
    obtain ⟨q0, q1, q2, q3⟩ := (HP.out.below hSw hpl).c4
    clear hSw
    try dsimp only [xO4]
    go_simp
    try with_reducible rfl
  try simp only [xO4, Act.put, List.setIfInBounds_toArray, List.set_cons_zero, List.set_cons_succ]
  refine wpAnyH_ready (rs := [5]) (by as_aux_lemma => kernel_rfl) (by simp) ?_
  refine AllReadyH.cons (o := xO5) rfl (fun K hK => ?_) AllReadyH.nil
  dsimp only [xO5]
  go_simp
  refine (HAH.out _).mono ?_
  rintro e u1 ⟨rfl, hw⟩
  rw [hw]
  clear hw
  go_wp2_with fail
  refine hK.out _ _ hHeld (fun hHeld => ?_)
  clear hK K
  try simp only [Act.put, List.setIfInBounds_toArray, List.set_cons_zero, List.set_cons_succ]
  refine wpAnyH_take (i := 6) (oi := xO6) (v := ?_) rfl (by kernel_rfl) (by kernel_rfl) (by kernel_rfl) (fun _ _ _ h => h) (Or.inl ⟨by rfl, ?_⟩) hHeld ?_
  rotate_left
  · intro w hSw
    clear hSw
    try dsimp only [xO6]
    go_simp
    try with_reducible rfl
  try simp only [xO6, Act.put, List.setIfInBounds_toArray, List.set_cons_zero, List.set_cons_succ]
  refine wpAnyH_take (i := 7) (oi := xO7) (v := .int .u8 (x.toNat : Nat)) rfl (by kernel_rfl) (by kernel_rfl) (by kernel_rfl) (fun _ _ _ h => h) (Or.inl ⟨by rfl, ?_⟩) hHeld ?_
  · intro w hSw
    clear hSw
    try dsimp only [xO7]
    go_simp
    rw [IntWalk.i64_in _ (by omega), IntWalk.u8_in _ (by have h := HXB.out; omega)]
    have h := HXB.out
    omega
  try simp only [xO7, Act.put, List.setIfInBounds_toArray, List.set_cons_zero, List.set_cons_succ]
  refine wpAnyH_ready (rs := [8]) (by as_aux_lemma => kernel_rfl) (by simp) ?_
  refine AllReadyH.cons (o := xO8) rfl (fun K hK => ?_) AllReadyH.nil
  refine wp_byte1 (by rfl) _ rfl x _ rfl rfl ?_
  intro u2 HC8 hb
  replace HC8 : CellsAt u2 V.heap.size _ _ := HC8
  refine hK.out _ _ (hHeld.trans (hb.mono hHeld.size)) (fun hHeld => ?_)
  clear hK K
  have hv2 : Below V.heap.size V u2 := (below_drewN (Below.refl V.heap.size V) 1).trans hb
  refine wpAnyH_more (S' := fun w' => Below u2.heap.size u2 w') (fun _ h => hHeld.trans (h.mono hHeld.size)) _ _ _ _ ?_
  clear hHeld hb
  have hHeld : Below u2.heap.size u2 u2 := Below.refl _ _
  try simp only [Act.put, List.setIfInBounds_toArray, List.set_cons_zero, List.set_cons_succ]
  refine wpAnyH_take (i := 9) (oi := xO9) (v := ?_) rfl (by kernel_rfl) (by kernel_rfl) (by kernel_rfl) (fun _ _ _ h => h) (Or.inl ⟨by rfl, ?_⟩) hHeld ?_
  rotate_left
  · intro w hSw
    have hc := conv_at (HC8.below hSw HC8.lt) (n := 1) (l := [x]) rfl
    clear hSw
    try dsimp only [xO9]
    go_simp
    try rw [hc]
    try with_reducible rfl
  try simp only [xO9, Act.put, List.setIfInBounds_toArray, List.set_cons_zero, List.set_cons_succ]
  refine wpAnyH_take (i := 10) (oi := xO10) (v := .string (F1 ++ ⟨#[x]⟩)) rfl (by kernel_rfl) (by kernel_rfl) (by kernel_rfl) (fun _ _ _ h => h) (Or.inl ⟨by rfl, ?_⟩) hHeld ?_
  · intro w hSw
    clear hSw
    try dsimp only [xO10]
    go_simp
    first | rfl | omega | (rw [if_neg (by omega)])
  try simp only [xO10, Act.put, List.setIfInBounds_toArray, List.set_cons_zero, List.set_cons_succ]
  refine wpAnyH_take (i := 11) (oi := xO11) (v := ?_) rfl (by kernel_rfl) (by kernel_rfl) (by kernel_rfl) (fun _ _ _ h => h) (Or.inl ⟨by rfl, ?_⟩) hHeld ?_
  rotate_left
  · intro w hSw
    clear hSw
    try dsimp only [xO11]
    go_simp
    try with_reducible rfl
  try simp only [xO11, Act.put, List.setIfInBounds_toArray, List.set_cons_zero, List.set_cons_succ]
  refine wpAnyH_done (by as_aux_lemma => kernel_rfl) ?_ _
  have HX2 := Lib.hid (HX.out.below hv2 hxl)
  have HP2 := Lib.hid (HP.out.below hv2 hpl)
  have HB2 := Lib.hid (HB.out.trans (hv2.mono HB.out.size))
  clear hHeld HX HP HB
  have hpl2 := HP2.out.lt
  have hxl2 := HX2.out.lt
  obtain ⟨p0, p1, p2, p3⟩ := HP2.out.c4
  obtain ⟨c0, c1, c2, c3, c4, c5⟩ := HX2.out.c6
  go_wp2_with fail
  refine (HLB.out _).mono ?_
  rintro e w4 ⟨rfl, hw⟩
  rw [hw]
  clear hw
  have h3 := HF3.out u2
  have hor := HOR.out
  go_wp2_with fail
  clear h3 hor p0 p1 p2 p3 c0 c1 c2 c3 c4 c5
  have HX3 := Lib.hid (HX2.out.alloc (.cells #[.int .u8 ((label * 16 + 1) / 65536), .int .u8 ((label * 16 + 1) / 256 % 256), .int .u8 ((label * 16 + 1) % 256)] 5))
  have HP3 := Lib.hid (HP2.out.alloc (.cells #[.int .u8 ((label * 16 + 1) / 65536), .int .u8 ((label * 16 + 1) / 256 % 256), .int .u8 ((label * 16 + 1) % 256)] 5))
  have HB3 := Lib.hid (HB2.out.alloc HB2.out.size (.cells #[.int .u8 ((label * 16 + 1) / 65536), .int .u8 ((label * 16 + 1) / 256 % 256), .int .u8 ((label * 16 + 1) % 256)] 5))
  clear HX2 HP2 HB2
  generalize u2.alloc (.cells #[.int .u8 ((label * 16 + 1) / 65536), .int .u8 ((label * 16 + 1) / 256 % 256), .int .u8 ((label * 16 + 1) % 256)] 5) = V3 at HX3 HP3 HB3 hpl2 hxl2 ⊢
  have hpl3 := HP3.out.lt
  obtain ⟨p0, p1, p2, p3⟩ := HP3.out.c4
  try go_wp2_with fail
  refine (HAB.out _).mono ?_
  rintro e w5 ⟨rfl, hw⟩
  rw [hw]
  clear hw
  go_wp2_with fail
  go_wp2_with fail
  go_ret
  exact ⟨ret_val (val_str HS.out.symm), HB3.out⟩
set_option maxRecDepth 100000 in
set_option maxHeartbeats 8000000 in
theorem rone_LAi (fam rd : Int) (addr : ByteArray) (len id label : Int) (w : World) (x : UInt8) (F1 F3 FA FB : ByteArray) (S : ByteArray) (f1 : 1 ≤ fam) (f2 : fam ≤ 5) (r0 : 0 ≤ rd) (r1 : rd < 18446744073709551616) (l0 : 0 ≤ len) (l1 : len ≤ 128) (i0 : 0 ≤ id) (i1 : id < 4294967296) (b0 : 0 ≤ label) (b1 : label ≤ 1048575)
    (hlab : labB fam = true) (hap : apB fam = true) (hah : aheadV fam = 88) (hx : len + 88 = (x.toNat : Nat)) (hk0 : 0 ≤ (len + 7) / 8) (hks : (len + 7) / 8 ≤ (addr.size : Int)) (has : addr.size ≤ 16) (z1 : F1.size ≤ 4) (z3 : F3.size ≤ 3) (za : FA.size ≤ 4) (zb : FB.size ≤ 4)
    (hf1 : ∀ w, Calls Try.prog 67 #[.int .u32 id] w fun e w' => e = .returned (.string F1) ∧ Below w.heap.size w w')
    (hfa : ∀ w, Calls Try.prog 67 #[.int .u32 (rd / 4294967296)] w fun e w' => e = .returned (.string FA) ∧ Below w.heap.size w w')
    (hfb : ∀ w, Calls Try.prog 67 #[.int .u32 (rd % 4294967296)] w fun e w' => e = .returned (.string FB) ∧ Below w.heap.size w w')
    (hor : bits .or .u32 (label * 16) 1 = label * 16 + 1)
    (hf3 : ∀ u : World, (convert 52 9 (.slice (some ⟨u.heap.size, 0, none⟩) 3 3)).run Try.prog (u.alloc (.cells #[.int .u8 ((label * 16 + 1) / 65536), .int .u8 ((label * 16 + 1) / 256 % 256), .int .u8 ((label * 16 + 1) % 256)] 5)) = .ok (.string F3) (u.alloc (.cells #[.int .u8 ((label * 16 + 1) / 65536), .int .u8 ((label * 16 + 1) / 256 % 256), .int .u8 ((label * 16 + 1) % 256)] 5)))
    (hS : S = ⟨#[x]⟩ ++ F3 ++ FA ++ FB ++ addr.extract 0 ((len + 7) / 8).toNat) :
    Calls Try.prog 49 #[.agg #[.int .i64 fam, .int .u64 rd, .string addr, .int .i64 len, .int .u32 id, .int .u32 label], .bool false] w fun e w' => e = .returned (.string S) ∧ Below w.heap.size w w' := by
  have HLB : Hid (∀ w, Calls Try.prog 66 #[.int .i64 fam] w fun e w' => e = .returned (.bool true) ∧ w' = w) := fun w => hlab ▸ rlab_any fam w f1 f2
  have HAB : Hid (∀ w, Calls Try.prog 69 #[.int .i64 fam] w fun e w' => e = .returned (.bool true) ∧ w' = w) := fun w => hap ▸ rap_any fam w f1 f2
  have HAH : Hid (∀ w, Calls Try.prog 68 #[.int .i64 fam] w fun e w' => e = .returned (.int .i64 88) ∧ w' = w) := fun w => hah ▸ rahead_any fam w f1 f2
  have HF1 := Lib.hid hf1
  have HFA := Lib.hid hfa
  have HFB := Lib.hid hfb
  have HF3 := Lib.hid hf3
  have HOR := Lib.hid hor
  have HXB := Lib.hid hx
  have HS := Lib.hid hS
  clear hlab hap hah hf1 hfa hfb hf3 hor hx hS
  have HX0 : Hid (CellsAt (w.alloc (.cells #[.int .i64 fam, .int .u64 rd, .string addr, .int .i64 len, .int .u32 id, .int .u32 label] 47)) w.heap.size #[.int .i64 fam, .int .u64 rd, .string addr, .int .i64 len, .int .u32 id, .int .u32 label] 47) := CellsAt.new _ _ _
  have HB0 : Hid (Below w.heap.size w (w.alloc (.cells #[.int .i64 fam, .int .u64 rd, .string addr, .int .i64 len, .int .u32 id, .int .u32 label] 47))) := (Below.refl _ _).alloc (Nat.le_refl _) _
  go_enter Try.func49, Try.ntmps49
  go_wp2_with fail
  have HX := Lib.hid (HX0.out.alloc (.cells #[.int .i64 fam, .int .u64 rd, .string addr, .int .i64 len] 44))
  have HP : Hid (CellsAt ((w.alloc (.cells #[.int .i64 fam, .int .u64 rd, .string addr, .int .i64 len, .int .u32 id, .int .u32 label] 47)).alloc (.cells #[.int .i64 fam, .int .u64 rd, .string addr, .int .i64 len] 44)) (w.heap.size + 1) #[.int .i64 fam, .int .u64 rd, .string addr, .int .i64 len] 44) := by
    have h := CellsAt.new (w.alloc (.cells #[.int .i64 fam, .int .u64 rd, .string addr, .int .i64 len, .int .u32 id, .int .u32 label] 47)) #[.int .i64 fam, .int .u64 rd, .string addr, .int .i64 len] 44
    rwa [World.size_alloc] at h
  have HB : Hid (Below w.heap.size w ((w.alloc (.cells #[.int .i64 fam, .int .u64 rd, .string addr, .int .i64 len, .int .u32 id, .int .u32 label] 47)).alloc (.cells #[.int .i64 fam, .int .u64 rd, .string addr, .int .i64 len] 44))) := HB0.out.alloc (by simp) _
  clear HX0 HB0
  generalize (w.alloc (.cells #[.int .i64 fam, .int .u64 rd, .string addr, .int .i64 len, .int .u32 id, .int .u32 label] 47)).alloc (.cells #[.int .i64 fam, .int .u64 rd, .string addr, .int .i64 len] 44) = V at HX HP HB ⊢
  generalize w.heap.size + 1 = bp at HP ⊢
  have hpl := HP.out.lt
  have hxl := HX.out.lt
  refine wp_region_held_drew (S := fun w' => Below V.heap.size V w') (by kernel_rfl) (below_drewN (Below.refl _ _) 1) (fun hHeld => ?_)
  refine wpAnyH_take (i := 0) (oi := xO0) (v := ?_) rfl (by kernel_rfl) (by kernel_rfl) (by kernel_rfl) (fun _ _ _ h => h) (Or.inl ⟨by rfl, ?_⟩) hHeld ?_
  rotate_left
  · intro w hSw
    clear hSw
    try dsimp only [xO0]
    go_simp
    try with_reducible rfl
  try simp only [xO0, Act.put, List.setIfInBounds_toArray, List.set_cons_zero, List.set_cons_succ]
  refine wpAnyH_take (i := 1) (oi := xO1) (v := ?_) rfl (by kernel_rfl) (by kernel_rfl) (by kernel_rfl) (fun _ _ _ h => h) (Or.inl ⟨by rfl, ?_⟩) hHeld ?_
  rotate_left
  · intro w hSw
    clear hSw
    try dsimp only [xO1]
    go_simp
    try with_reducible rfl
  try simp only [xO1, Act.put, List.setIfInBounds_toArray, List.set_cons_zero, List.set_cons_succ]
  refine wpAnyH_take (i := 2) (oi := xO2) (v := ?_) rfl (by kernel_rfl) (by kernel_rfl) (by kernel_rfl) (fun _ _ _ h => h) (Or.inl ⟨by rfl, ?_⟩) hHeld ?_
  rotate_left
  · intro w hSw
    obtain ⟨q0, q1, q2, q3⟩ := (HP.out.below hSw hpl).c4
    clear hSw
    try dsimp only [xO2]
    go_simp
    try with_reducible rfl
  try simp only [xO2, Act.put, List.setIfInBounds_toArray, List.set_cons_zero, List.set_cons_succ]
  refine wpAnyH_take (i := 3) (oi := xO3) (v := ?_) rfl (by kernel_rfl) (by kernel_rfl) (by kernel_rfl) (fun _ _ _ h => h) (Or.inl ⟨by rfl, ?_⟩) hHeld ?_
  rotate_left
  · intro w hSw
    clear hSw
    try dsimp only [xO3]
    go_simp
    try with_reducible rfl
  try simp only [xO3, Act.put, List.setIfInBounds_toArray, List.set_cons_zero, List.set_cons_succ]
  refine wpAnyH_take (i := 4) (oi := xO4) (v := ?_) rfl (by kernel_rfl) (by kernel_rfl) (by kernel_rfl) (fun _ _ _ h => h) (Or.inl ⟨by rfl, ?_⟩) hHeld ?_
  rotate_left
  · intro w hSw
    obtain ⟨q0, q1, q2, q3⟩ := (HP.out.below hSw hpl).c4
    clear hSw
    try dsimp only [xO4]
    go_simp
    try with_reducible rfl
  try simp only [xO4, Act.put, List.setIfInBounds_toArray, List.set_cons_zero, List.set_cons_succ]
  refine wpAnyH_ready (rs := [5]) (by as_aux_lemma => kernel_rfl) (by simp) ?_
  refine AllReadyH.cons (o := xO5) rfl (fun K hK => ?_) AllReadyH.nil
  dsimp only [xO5]
  go_simp
  refine (HAH.out _).mono ?_
  rintro e u1 ⟨rfl, hw⟩
  rw [hw]
  clear hw
  go_wp2_with fail
  refine hK.out _ _ hHeld (fun hHeld => ?_)
  clear hK K
  try simp only [Act.put, List.setIfInBounds_toArray, List.set_cons_zero, List.set_cons_succ]
  refine wpAnyH_take (i := 6) (oi := xO6) (v := ?_) rfl (by kernel_rfl) (by kernel_rfl) (by kernel_rfl) (fun _ _ _ h => h) (Or.inl ⟨by rfl, ?_⟩) hHeld ?_
  rotate_left
  · intro w hSw
    clear hSw
    try dsimp only [xO6]
    go_simp
    try with_reducible rfl
  try simp only [xO6, Act.put, List.setIfInBounds_toArray, List.set_cons_zero, List.set_cons_succ]
  refine wpAnyH_take (i := 7) (oi := xO7) (v := .int .u8 (x.toNat : Nat)) rfl (by kernel_rfl) (by kernel_rfl) (by kernel_rfl) (fun _ _ _ h => h) (Or.inl ⟨by rfl, ?_⟩) hHeld ?_
  · intro w hSw
    clear hSw
    try dsimp only [xO7]
    go_simp
    rw [IntWalk.i64_in _ (by omega), IntWalk.u8_in _ (by have h := HXB.out; omega)]
    have h := HXB.out
    omega
  try simp only [xO7, Act.put, List.setIfInBounds_toArray, List.set_cons_zero, List.set_cons_succ]
  refine wpAnyH_ready (rs := [8]) (by as_aux_lemma => kernel_rfl) (by simp) ?_
  refine AllReadyH.cons (o := xO8) rfl (fun K hK => ?_) AllReadyH.nil
  refine wp_byte1 (by rfl) _ rfl x _ rfl rfl ?_
  intro u2 HC8 hb
  replace HC8 : CellsAt u2 V.heap.size _ _ := HC8
  refine hK.out _ _ (hHeld.trans (hb.mono hHeld.size)) (fun hHeld => ?_)
  clear hK K
  have hv2 : Below V.heap.size V u2 := (below_drewN (Below.refl V.heap.size V) 1).trans hb
  refine wpAnyH_more (S' := fun w' => Below u2.heap.size u2 w') (fun _ h => hHeld.trans (h.mono hHeld.size)) _ _ _ _ ?_
  clear hHeld hb
  have hHeld : Below u2.heap.size u2 u2 := Below.refl _ _
  try simp only [Act.put, List.setIfInBounds_toArray, List.set_cons_zero, List.set_cons_succ]
  refine wpAnyH_take (i := 9) (oi := xO9) (v := ?_) rfl (by kernel_rfl) (by kernel_rfl) (by kernel_rfl) (fun _ _ _ h => h) (Or.inl ⟨by rfl, ?_⟩) hHeld ?_
  rotate_left
  · intro w hSw
    have hc := conv_at (HC8.below hSw HC8.lt) (n := 1) (l := [x]) rfl
    clear hSw
    try dsimp only [xO9]
    go_simp
    try rw [hc]
    try with_reducible rfl
  try simp only [xO9, Act.put, List.setIfInBounds_toArray, List.set_cons_zero, List.set_cons_succ]
  refine wpAnyH_take (i := 10) (oi := xO10) (v := .string (⟨#[x]⟩)) rfl (by kernel_rfl) (by kernel_rfl) (by kernel_rfl) (fun _ _ _ h => h) (Or.inl ⟨by rfl, ?_⟩) hHeld ?_
  · intro w hSw
    clear hSw
    try dsimp only [xO10]
    go_simp
    first | rfl | omega | (rw [if_neg (by omega)])
  try simp only [xO10, Act.put, List.setIfInBounds_toArray, List.set_cons_zero, List.set_cons_succ]
  refine wpAnyH_take (i := 11) (oi := xO11) (v := ?_) rfl (by kernel_rfl) (by kernel_rfl) (by kernel_rfl) (fun _ _ _ h => h) (Or.inl ⟨by rfl, ?_⟩) hHeld ?_
  rotate_left
  · intro w hSw
    clear hSw
    try dsimp only [xO11]
    go_simp
    try with_reducible rfl
  try simp only [xO11, Act.put, List.setIfInBounds_toArray, List.set_cons_zero, List.set_cons_succ]
  refine wpAnyH_done (by as_aux_lemma => kernel_rfl) ?_ _
  have HX2 := Lib.hid (HX.out.below hv2 hxl)
  have HP2 := Lib.hid (HP.out.below hv2 hpl)
  have HB2 := Lib.hid (HB.out.trans (hv2.mono HB.out.size))
  clear hHeld HX HP HB
  have hpl2 := HP2.out.lt
  have hxl2 := HX2.out.lt
  obtain ⟨p0, p1, p2, p3⟩ := HP2.out.c4
  obtain ⟨c0, c1, c2, c3, c4, c5⟩ := HX2.out.c6
  go_wp2_with fail
  refine (HLB.out _).mono ?_
  rintro e w4 ⟨rfl, hw⟩
  rw [hw]
  clear hw
  have h3 := HF3.out u2
  have hor := HOR.out
  go_wp2_with fail
  clear h3 hor p0 p1 p2 p3 c0 c1 c2 c3 c4 c5
  have HX3 := Lib.hid (HX2.out.alloc (.cells #[.int .u8 ((label * 16 + 1) / 65536), .int .u8 ((label * 16 + 1) / 256 % 256), .int .u8 ((label * 16 + 1) % 256)] 5))
  have HP3 := Lib.hid (HP2.out.alloc (.cells #[.int .u8 ((label * 16 + 1) / 65536), .int .u8 ((label * 16 + 1) / 256 % 256), .int .u8 ((label * 16 + 1) % 256)] 5))
  have HB3 := Lib.hid (HB2.out.alloc HB2.out.size (.cells #[.int .u8 ((label * 16 + 1) / 65536), .int .u8 ((label * 16 + 1) / 256 % 256), .int .u8 ((label * 16 + 1) % 256)] 5))
  clear HX2 HP2 HB2
  generalize u2.alloc (.cells #[.int .u8 ((label * 16 + 1) / 65536), .int .u8 ((label * 16 + 1) / 256 % 256), .int .u8 ((label * 16 + 1) % 256)] 5) = V3 at HX3 HP3 HB3 hpl2 hxl2 ⊢
  have hpl3 := HP3.out.lt
  obtain ⟨p0, p1, p2, p3⟩ := HP3.out.c4
  try go_wp2_with fail
  refine (HAB.out _).mono ?_
  rintro e w5 ⟨rfl, hw⟩
  rw [hw]
  clear hw
  go_wp2_with fail
  clear p0 p1 p2 p3
  refine wp_region_held_drew (S := fun w' => Below V3.heap.size V3 w') (by kernel_rfl) (below_drewN (Below.refl _ _) 1) (fun hHeld => ?_)
  refine wpAnyH_take (i := 0) (oi := yO0) (v := ?_) rfl (by kernel_rfl) (by kernel_rfl) (by kernel_rfl) (fun _ _ _ h => h) (Or.inl ⟨by rfl, ?_⟩) hHeld ?_
  rotate_left
  · intro w hSw
    clear hSw
    try dsimp only [yO0]
    go_simp
    try with_reducible rfl
  try simp only [yO0, Act.put, List.setIfInBounds_toArray, List.set_cons_zero, List.set_cons_succ]
  refine wpAnyH_take (i := 1) (oi := yO1) (v := ?_) rfl (by kernel_rfl) (by kernel_rfl) (by kernel_rfl) (fun _ _ _ h => h) (Or.inl ⟨by rfl, ?_⟩) hHeld ?_
  rotate_left
  · intro w hSw
    clear hSw
    try dsimp only [yO1]
    go_simp
    try with_reducible rfl
  try simp only [yO1, Act.put, List.setIfInBounds_toArray, List.set_cons_zero, List.set_cons_succ]
  refine wpAnyH_take (i := 2) (oi := yO2) (v := ?_) rfl (by kernel_rfl) (by kernel_rfl) (by kernel_rfl) (fun _ _ _ h => h) (Or.inl ⟨by rfl, ?_⟩) hHeld ?_
  rotate_left
  · intro w hSw
    obtain ⟨q0, q1, q2, q3⟩ := (HP3.out.below hSw hpl3).c4
    clear hSw
    try dsimp only [yO2]
    go_simp
    try with_reducible rfl
  try simp only [yO2, Act.put, List.setIfInBounds_toArray, List.set_cons_zero, List.set_cons_succ]
  refine wpAnyH_take (i := 3) (oi := yO3) (v := ?_) rfl (by kernel_rfl) (by kernel_rfl) (by kernel_rfl) (fun _ _ _ h => h) (Or.inl ⟨by rfl, ?_⟩) hHeld ?_
  rotate_left
  · intro w hSw
    clear hSw
    try dsimp only [yO3]
    go_simp
    try with_reducible rfl
  try simp only [yO3, Act.put, List.setIfInBounds_toArray, List.set_cons_zero, List.set_cons_succ]
  refine wpAnyH_take (i := 4) (oi := yO4) (v := .int .u32 (rd / 4294967296)) rfl (by kernel_rfl) (by kernel_rfl) (by kernel_rfl) (fun _ _ _ h => h) (Or.inl ⟨by rfl, ?_⟩) hHeld ?_
  · intro w hSw
    clear hSw
    try dsimp only [yO4]
    go_simp
    first | rfl | (rw [IntWalk.u32_in _ (by omega)]) | omega
  try simp only [yO4, Act.put, List.setIfInBounds_toArray, List.set_cons_zero, List.set_cons_succ]
  refine wpAnyH_take (i := 7) (oi := yO7) (v := ?_) rfl (by kernel_rfl) (by kernel_rfl) (by kernel_rfl) (fun _ _ _ h => h) (Or.inl ⟨by rfl, ?_⟩) hHeld ?_
  rotate_left
  · intro w hSw
    clear hSw
    try dsimp only [yO7]
    go_simp
    try with_reducible rfl
  try simp only [yO7, Act.put, List.setIfInBounds_toArray, List.set_cons_zero, List.set_cons_succ]
  refine wpAnyH_take (i := 8) (oi := yO8) (v := ?_) rfl (by kernel_rfl) (by kernel_rfl) (by kernel_rfl) (fun _ _ _ h => h) (Or.inl ⟨by rfl, ?_⟩) hHeld ?_
  rotate_left
  · intro w hSw
    obtain ⟨q0, q1, q2, q3⟩ := (HP3.out.below hSw hpl3).c4
    clear hSw
    try dsimp only [yO8]
    go_simp
    try with_reducible rfl
  try simp only [yO8, Act.put, List.setIfInBounds_toArray, List.set_cons_zero, List.set_cons_succ]
  refine wpAnyH_take (i := 9) (oi := yO9) (v := .int .u32 (rd % 4294967296)) rfl (by kernel_rfl) (by kernel_rfl) (by kernel_rfl) (fun _ _ _ h => h) (Or.inl ⟨by rfl, ?_⟩) hHeld ?_
  · intro w hSw
    clear hSw
    try dsimp only [yO9]
    go_simp
    first | rfl | omega | (rw [IntKind.wrap_u32])
  try simp only [yO9, Act.put, List.setIfInBounds_toArray, List.set_cons_zero, List.set_cons_succ]
  refine wpAnyH_ready (rs := [5]) (by as_aux_lemma => kernel_rfl) (by simp) ?_
  refine AllReadyH.cons (o := yO5) rfl (fun K hK => ?_) AllReadyH.nil
  dsimp only [yO5]
  go_simp
  refine (HFA.out _).mono ?_
  rintro e u1 ⟨rfl, hb⟩
  go_wp2_with fail
  refine hK.out _ _ (hHeld.trans (hb.mono hHeld.size)) (fun hHeld => ?_)
  clear hK K
  have hv1 : Below V3.heap.size V3 u1 := (below_drewN (Below.refl V3.heap.size V3) 1).trans hb
  refine wpAnyH_more (S' := fun w' => Below u1.heap.size u1 w') (fun _ h => hHeld.trans (h.mono hHeld.size)) _ _ _ _ ?_
  clear hHeld hb
  have hHeld : Below u1.heap.size u1 u1 := Below.refl _ _
  try simp only [Act.put, List.setIfInBounds_toArray, List.set_cons_zero, List.set_cons_succ]
  refine wpAnyH_take (i := 6) (oi := yO6) (v := .string (⟨#[x]⟩ ++ F3 ++ FA)) rfl (by kernel_rfl) (by kernel_rfl) (by kernel_rfl) (fun _ _ _ h => h) (Or.inl ⟨by rfl, ?_⟩) hHeld ?_
  · intro w hSw
    clear hSw
    try dsimp only [yO6]
    go_simp
    first | omega | (rw [if_neg (by omega)])
  try simp only [yO6, Act.put, List.setIfInBounds_toArray, List.set_cons_zero, List.set_cons_succ]
  refine wpAnyH_ready (rs := [10]) (by as_aux_lemma => kernel_rfl) (by simp) ?_
  refine AllReadyH.cons (o := yO10) rfl (fun K hK => ?_) AllReadyH.nil
  dsimp only [yO10]
  go_simp
  refine (HFB.out _).mono ?_
  rintro e u2 ⟨rfl, hb⟩
  go_wp2_with fail
  refine hK.out _ _ (hHeld.trans (hb.mono hHeld.size)) (fun hHeld => ?_)
  clear hK K
  have hv2 : Below V3.heap.size V3 u2 := hv1.trans (hb.mono hv1.size)
  refine wpAnyH_more (S' := fun w' => Below u2.heap.size u2 w') (fun _ h => hHeld.trans (h.mono hHeld.size)) _ _ _ _ ?_
  clear hHeld hb
  have hHeld : Below u2.heap.size u2 u2 := Below.refl _ _
  try simp only [Act.put, List.setIfInBounds_toArray, List.set_cons_zero, List.set_cons_succ]
  refine wpAnyH_take (i := 11) (oi := yO11) (v := .string (⟨#[x]⟩ ++ F3 ++ FA ++ FB)) rfl (by kernel_rfl) (by kernel_rfl) (by kernel_rfl) (fun _ _ _ h => h) (Or.inl ⟨by rfl, ?_⟩) hHeld ?_
  · intro w hSw
    clear hSw
    try dsimp only [yO11]
    go_simp
    first | omega | (rw [if_neg (by omega)])
  try simp only [yO11, Act.put, List.setIfInBounds_toArray, List.set_cons_zero, List.set_cons_succ]
  refine wpAnyH_take (i := 12) (oi := yO12) (v := ?_) rfl (by kernel_rfl) (by kernel_rfl) (by kernel_rfl) (fun _ _ _ h => h) (Or.inl ⟨by rfl, ?_⟩) hHeld ?_
  rotate_left
  · intro w hSw
    clear hSw
    try dsimp only [yO12]
    go_simp
    try with_reducible rfl
  try simp only [yO12, Act.put, List.setIfInBounds_toArray, List.set_cons_zero, List.set_cons_succ]
  refine wpAnyH_done (by as_aux_lemma => kernel_rfl) ?_ _
  have HP4 := Lib.hid (HP3.out.below hv2 hpl3)
  have HB4 := Lib.hid (HB3.out.trans (hv2.mono HB3.out.size))
  clear hHeld HP3 HB3
  obtain ⟨p0, p1, p2, p3⟩ := HP4.out.c4
  go_wp2_with fail
  go_ret
  exact ⟨ret_val (val_str HS.out.symm), HB4.out⟩
set_option maxRecDepth 100000 in
set_option maxHeartbeats 8000000 in
theorem rone_LAI (fam rd : Int) (addr : ByteArray) (len id label : Int) (w : World) (x : UInt8) (F1 F3 FA FB : ByteArray) (S : ByteArray) (f1 : 1 ≤ fam) (f2 : fam ≤ 5) (r0 : 0 ≤ rd) (r1 : rd < 18446744073709551616) (l0 : 0 ≤ len) (l1 : len ≤ 128) (i0 : 0 ≤ id) (i1 : id < 4294967296) (b0 : 0 ≤ label) (b1 : label ≤ 1048575)
    (hlab : labB fam = true) (hap : apB fam = true) (hah : aheadV fam = 88) (hx : len + 88 = (x.toNat : Nat)) (hk0 : 0 ≤ (len + 7) / 8) (hks : (len + 7) / 8 ≤ (addr.size : Int)) (has : addr.size ≤ 16) (z1 : F1.size ≤ 4) (z3 : F3.size ≤ 3) (za : FA.size ≤ 4) (zb : FB.size ≤ 4)
    (hf1 : ∀ w, Calls Try.prog 67 #[.int .u32 id] w fun e w' => e = .returned (.string F1) ∧ Below w.heap.size w w')
    (hfa : ∀ w, Calls Try.prog 67 #[.int .u32 (rd / 4294967296)] w fun e w' => e = .returned (.string FA) ∧ Below w.heap.size w w')
    (hfb : ∀ w, Calls Try.prog 67 #[.int .u32 (rd % 4294967296)] w fun e w' => e = .returned (.string FB) ∧ Below w.heap.size w w')
    (hor : bits .or .u32 (label * 16) 1 = label * 16 + 1)
    (hf3 : ∀ u : World, (convert 52 9 (.slice (some ⟨u.heap.size, 0, none⟩) 3 3)).run Try.prog (u.alloc (.cells #[.int .u8 ((label * 16 + 1) / 65536), .int .u8 ((label * 16 + 1) / 256 % 256), .int .u8 ((label * 16 + 1) % 256)] 5)) = .ok (.string F3) (u.alloc (.cells #[.int .u8 ((label * 16 + 1) / 65536), .int .u8 ((label * 16 + 1) / 256 % 256), .int .u8 ((label * 16 + 1) % 256)] 5)))
    (hS : S = F1 ++ ⟨#[x]⟩ ++ F3 ++ FA ++ FB ++ addr.extract 0 ((len + 7) / 8).toNat) :
    Calls Try.prog 49 #[.agg #[.int .i64 fam, .int .u64 rd, .string addr, .int .i64 len, .int .u32 id, .int .u32 label], .bool true] w fun e w' => e = .returned (.string S) ∧ Below w.heap.size w w' := by
  have HLB : Hid (∀ w, Calls Try.prog 66 #[.int .i64 fam] w fun e w' => e = .returned (.bool true) ∧ w' = w) := fun w => hlab ▸ rlab_any fam w f1 f2
  have HAB : Hid (∀ w, Calls Try.prog 69 #[.int .i64 fam] w fun e w' => e = .returned (.bool true) ∧ w' = w) := fun w => hap ▸ rap_any fam w f1 f2
  have HAH : Hid (∀ w, Calls Try.prog 68 #[.int .i64 fam] w fun e w' => e = .returned (.int .i64 88) ∧ w' = w) := fun w => hah ▸ rahead_any fam w f1 f2
  have HF1 := Lib.hid hf1
  have HFA := Lib.hid hfa
  have HFB := Lib.hid hfb
  have HF3 := Lib.hid hf3
  have HOR := Lib.hid hor
  have HXB := Lib.hid hx
  have HS := Lib.hid hS
  clear hlab hap hah hf1 hfa hfb hf3 hor hx hS
  have HX0 : Hid (CellsAt (w.alloc (.cells #[.int .i64 fam, .int .u64 rd, .string addr, .int .i64 len, .int .u32 id, .int .u32 label] 47)) w.heap.size #[.int .i64 fam, .int .u64 rd, .string addr, .int .i64 len, .int .u32 id, .int .u32 label] 47) := CellsAt.new _ _ _
  have HB0 : Hid (Below w.heap.size w (w.alloc (.cells #[.int .i64 fam, .int .u64 rd, .string addr, .int .i64 len, .int .u32 id, .int .u32 label] 47))) := (Below.refl _ _).alloc (Nat.le_refl _) _
  go_enter Try.func49, Try.ntmps49
  go_wp2_with fail
  refine (HF1.out _).mono ?_
  rintro e w1 ⟨rfl, hb⟩
  have HX1 := Lib.hid (HX0.out.below hb HX0.out.lt)
  have HBB := Lib.hid (HB0.out.trans (hb.mono HB0.out.size))
  clear hb HX0 HB0
  obtain ⟨c0, c1, c2, c3, c4, c5⟩ := HX1.out.c6
  go_wp2_with fail
  clear c0 c1 c2 c3 c4 c5
  have HX := Lib.hid (HX1.out.alloc (.cells #[.int .i64 fam, .int .u64 rd, .string addr, .int .i64 len] 44))
  have HP : Hid (CellsAt (w1.alloc (.cells #[.int .i64 fam, .int .u64 rd, .string addr, .int .i64 len] 44)) w1.heap.size #[.int .i64 fam, .int .u64 rd, .string addr, .int .i64 len] 44) := CellsAt.new _ _ _
  have HB : Hid (Below w.heap.size w (w1.alloc (.cells #[.int .i64 fam, .int .u64 rd, .string addr, .int .i64 len] 44))) := HBB.out.alloc HBB.out.size _
  clear HX1 HBB
  generalize w1.alloc (.cells #[.int .i64 fam, .int .u64 rd, .string addr, .int .i64 len] 44) = V at HX HP HB ⊢
  generalize w1.heap.size = bp at HP ⊢
  have hpl := HP.out.lt
  have hxl := HX.out.lt
  refine wp_region_held_drew (S := fun w' => Below V.heap.size V w') (by kernel_rfl) (below_drewN (Below.refl _ _) 1) (fun hHeld => ?_)
  refine wpAnyH_take (i := 0) (oi := xO0) (v := ?_) rfl (by kernel_rfl) (by kernel_rfl) (by kernel_rfl) (fun _ _ _ h => h) (Or.inl ⟨by rfl, ?_⟩) hHeld ?_
  rotate_left
  · intro w hSw
    clear hSw
    try dsimp only [xO0]
    go_simp
    try with_reducible rfl
  try simp only [xO0, Act.put, List.setIfInBounds_toArray, List.set_cons_zero, List.set_cons_succ]
  refine wpAnyH_take (i := 1) (oi := xO1) (v := ?_) rfl (by kernel_rfl) (by kernel_rfl) (by kernel_rfl) (fun _ _ _ h => h) (Or.inl ⟨by rfl, ?_⟩) hHeld ?_
  rotate_left
  · intro w hSw
    clear hSw
    try dsimp only [xO1]
    go_simp
    try with_reducible rfl
  try simp only [xO1, Act.put, List.setIfInBounds_toArray, List.set_cons_zero, List.set_cons_succ]
  refine wpAnyH_take (i := 2) (oi := xO2) (v := ?_) rfl (by kernel_rfl) (by kernel_rfl) (by kernel_rfl) (fun _ _ _ h => h) (Or.inl ⟨by rfl, ?_⟩) hHeld ?_
  rotate_left
  · intro w hSw
    obtain ⟨q0, q1, q2, q3⟩ := (HP.out.below hSw hpl).c4
    clear hSw
    try dsimp only [xO2]
    go_simp
    try with_reducible rfl
  try simp only [xO2, Act.put, List.setIfInBounds_toArray, List.set_cons_zero, List.set_cons_succ]
  refine wpAnyH_take (i := 3) (oi := xO3) (v := ?_) rfl (by kernel_rfl) (by kernel_rfl) (by kernel_rfl) (fun _ _ _ h => h) (Or.inl ⟨by rfl, ?_⟩) hHeld ?_
  rotate_left
  · intro w hSw
    clear hSw
    try dsimp only [xO3]
    go_simp
    try with_reducible rfl
  try simp only [xO3, Act.put, List.setIfInBounds_toArray, List.set_cons_zero, List.set_cons_succ]
  refine wpAnyH_take (i := 4) (oi := xO4) (v := ?_) rfl (by kernel_rfl) (by kernel_rfl) (by kernel_rfl) (fun _ _ _ h => h) (Or.inl ⟨by rfl, ?_⟩) hHeld ?_
  rotate_left
  · intro w hSw
    obtain ⟨q0, q1, q2, q3⟩ := (HP.out.below hSw hpl).c4
    clear hSw
    try dsimp only [xO4]
    go_simp
    try with_reducible rfl
  try simp only [xO4, Act.put, List.setIfInBounds_toArray, List.set_cons_zero, List.set_cons_succ]
  refine wpAnyH_ready (rs := [5]) (by as_aux_lemma => kernel_rfl) (by simp) ?_
  refine AllReadyH.cons (o := xO5) rfl (fun K hK => ?_) AllReadyH.nil
  dsimp only [xO5]
  go_simp
  refine (HAH.out _).mono ?_
  rintro e u1 ⟨rfl, hw⟩
  rw [hw]
  clear hw
  go_wp2_with fail
  refine hK.out _ _ hHeld (fun hHeld => ?_)
  clear hK K
  try simp only [Act.put, List.setIfInBounds_toArray, List.set_cons_zero, List.set_cons_succ]
  refine wpAnyH_take (i := 6) (oi := xO6) (v := ?_) rfl (by kernel_rfl) (by kernel_rfl) (by kernel_rfl) (fun _ _ _ h => h) (Or.inl ⟨by rfl, ?_⟩) hHeld ?_
  rotate_left
  · intro w hSw
    clear hSw
    try dsimp only [xO6]
    go_simp
    try with_reducible rfl
  try simp only [xO6, Act.put, List.setIfInBounds_toArray, List.set_cons_zero, List.set_cons_succ]
  refine wpAnyH_take (i := 7) (oi := xO7) (v := .int .u8 (x.toNat : Nat)) rfl (by kernel_rfl) (by kernel_rfl) (by kernel_rfl) (fun _ _ _ h => h) (Or.inl ⟨by rfl, ?_⟩) hHeld ?_
  · intro w hSw
    clear hSw
    try dsimp only [xO7]
    go_simp
    rw [IntWalk.i64_in _ (by omega), IntWalk.u8_in _ (by have h := HXB.out; omega)]
    have h := HXB.out
    omega
  try simp only [xO7, Act.put, List.setIfInBounds_toArray, List.set_cons_zero, List.set_cons_succ]
  refine wpAnyH_ready (rs := [8]) (by as_aux_lemma => kernel_rfl) (by simp) ?_
  refine AllReadyH.cons (o := xO8) rfl (fun K hK => ?_) AllReadyH.nil
  refine wp_byte1 (by rfl) _ rfl x _ rfl rfl ?_
  intro u2 HC8 hb
  replace HC8 : CellsAt u2 V.heap.size _ _ := HC8
  refine hK.out _ _ (hHeld.trans (hb.mono hHeld.size)) (fun hHeld => ?_)
  clear hK K
  have hv2 : Below V.heap.size V u2 := (below_drewN (Below.refl V.heap.size V) 1).trans hb
  refine wpAnyH_more (S' := fun w' => Below u2.heap.size u2 w') (fun _ h => hHeld.trans (h.mono hHeld.size)) _ _ _ _ ?_
  clear hHeld hb
  have hHeld : Below u2.heap.size u2 u2 := Below.refl _ _
  try simp only [Act.put, List.setIfInBounds_toArray, List.set_cons_zero, List.set_cons_succ]
  refine wpAnyH_take (i := 9) (oi := xO9) (v := ?_) rfl (by kernel_rfl) (by kernel_rfl) (by kernel_rfl) (fun _ _ _ h => h) (Or.inl ⟨by rfl, ?_⟩) hHeld ?_
  rotate_left
  · intro w hSw
    have hc := conv_at (HC8.below hSw HC8.lt) (n := 1) (l := [x]) rfl
    clear hSw
    try dsimp only [xO9]
    go_simp
    try rw [hc]
    try with_reducible rfl
  try simp only [xO9, Act.put, List.setIfInBounds_toArray, List.set_cons_zero, List.set_cons_succ]
  refine wpAnyH_take (i := 10) (oi := xO10) (v := .string (F1 ++ ⟨#[x]⟩)) rfl (by kernel_rfl) (by kernel_rfl) (by kernel_rfl) (fun _ _ _ h => h) (Or.inl ⟨by rfl, ?_⟩) hHeld ?_
  · intro w hSw
    clear hSw
    try dsimp only [xO10]
    go_simp
    first | rfl | omega | (rw [if_neg (by omega)])
  try simp only [xO10, Act.put, List.setIfInBounds_toArray, List.set_cons_zero, List.set_cons_succ]
  refine wpAnyH_take (i := 11) (oi := xO11) (v := ?_) rfl (by kernel_rfl) (by kernel_rfl) (by kernel_rfl) (fun _ _ _ h => h) (Or.inl ⟨by rfl, ?_⟩) hHeld ?_
  rotate_left
  · intro w hSw
    clear hSw
    try dsimp only [xO11]
    go_simp
    try with_reducible rfl
  try simp only [xO11, Act.put, List.setIfInBounds_toArray, List.set_cons_zero, List.set_cons_succ]
  refine wpAnyH_done (by as_aux_lemma => kernel_rfl) ?_ _
  have HX2 := Lib.hid (HX.out.below hv2 hxl)
  have HP2 := Lib.hid (HP.out.below hv2 hpl)
  have HB2 := Lib.hid (HB.out.trans (hv2.mono HB.out.size))
  clear hHeld HX HP HB
  have hpl2 := HP2.out.lt
  have hxl2 := HX2.out.lt
  obtain ⟨p0, p1, p2, p3⟩ := HP2.out.c4
  obtain ⟨c0, c1, c2, c3, c4, c5⟩ := HX2.out.c6
  go_wp2_with fail
  refine (HLB.out _).mono ?_
  rintro e w4 ⟨rfl, hw⟩
  rw [hw]
  clear hw
  have h3 := HF3.out u2
  have hor := HOR.out
  go_wp2_with fail
  clear h3 hor p0 p1 p2 p3 c0 c1 c2 c3 c4 c5
  have HX3 := Lib.hid (HX2.out.alloc (.cells #[.int .u8 ((label * 16 + 1) / 65536), .int .u8 ((label * 16 + 1) / 256 % 256), .int .u8 ((label * 16 + 1) % 256)] 5))
  have HP3 := Lib.hid (HP2.out.alloc (.cells #[.int .u8 ((label * 16 + 1) / 65536), .int .u8 ((label * 16 + 1) / 256 % 256), .int .u8 ((label * 16 + 1) % 256)] 5))
  have HB3 := Lib.hid (HB2.out.alloc HB2.out.size (.cells #[.int .u8 ((label * 16 + 1) / 65536), .int .u8 ((label * 16 + 1) / 256 % 256), .int .u8 ((label * 16 + 1) % 256)] 5))
  clear HX2 HP2 HB2
  generalize u2.alloc (.cells #[.int .u8 ((label * 16 + 1) / 65536), .int .u8 ((label * 16 + 1) / 256 % 256), .int .u8 ((label * 16 + 1) % 256)] 5) = V3 at HX3 HP3 HB3 hpl2 hxl2 ⊢
  have hpl3 := HP3.out.lt
  obtain ⟨p0, p1, p2, p3⟩ := HP3.out.c4
  try go_wp2_with fail
  refine (HAB.out _).mono ?_
  rintro e w5 ⟨rfl, hw⟩
  rw [hw]
  clear hw
  go_wp2_with fail
  clear p0 p1 p2 p3
  refine wp_region_held_drew (S := fun w' => Below V3.heap.size V3 w') (by kernel_rfl) (below_drewN (Below.refl _ _) 1) (fun hHeld => ?_)
  refine wpAnyH_take (i := 0) (oi := yO0) (v := ?_) rfl (by kernel_rfl) (by kernel_rfl) (by kernel_rfl) (fun _ _ _ h => h) (Or.inl ⟨by rfl, ?_⟩) hHeld ?_
  rotate_left
  · intro w hSw
    clear hSw
    try dsimp only [yO0]
    go_simp
    try with_reducible rfl
  try simp only [yO0, Act.put, List.setIfInBounds_toArray, List.set_cons_zero, List.set_cons_succ]
  refine wpAnyH_take (i := 1) (oi := yO1) (v := ?_) rfl (by kernel_rfl) (by kernel_rfl) (by kernel_rfl) (fun _ _ _ h => h) (Or.inl ⟨by rfl, ?_⟩) hHeld ?_
  rotate_left
  · intro w hSw
    clear hSw
    try dsimp only [yO1]
    go_simp
    try with_reducible rfl
  try simp only [yO1, Act.put, List.setIfInBounds_toArray, List.set_cons_zero, List.set_cons_succ]
  refine wpAnyH_take (i := 2) (oi := yO2) (v := ?_) rfl (by kernel_rfl) (by kernel_rfl) (by kernel_rfl) (fun _ _ _ h => h) (Or.inl ⟨by rfl, ?_⟩) hHeld ?_
  rotate_left
  · intro w hSw
    obtain ⟨q0, q1, q2, q3⟩ := (HP3.out.below hSw hpl3).c4
    clear hSw
    try dsimp only [yO2]
    go_simp
    try with_reducible rfl
  try simp only [yO2, Act.put, List.setIfInBounds_toArray, List.set_cons_zero, List.set_cons_succ]
  refine wpAnyH_take (i := 3) (oi := yO3) (v := ?_) rfl (by kernel_rfl) (by kernel_rfl) (by kernel_rfl) (fun _ _ _ h => h) (Or.inl ⟨by rfl, ?_⟩) hHeld ?_
  rotate_left
  · intro w hSw
    clear hSw
    try dsimp only [yO3]
    go_simp
    try with_reducible rfl
  try simp only [yO3, Act.put, List.setIfInBounds_toArray, List.set_cons_zero, List.set_cons_succ]
  refine wpAnyH_take (i := 4) (oi := yO4) (v := .int .u32 (rd / 4294967296)) rfl (by kernel_rfl) (by kernel_rfl) (by kernel_rfl) (fun _ _ _ h => h) (Or.inl ⟨by rfl, ?_⟩) hHeld ?_
  · intro w hSw
    clear hSw
    try dsimp only [yO4]
    go_simp
    first | rfl | (rw [IntWalk.u32_in _ (by omega)]) | omega
  try simp only [yO4, Act.put, List.setIfInBounds_toArray, List.set_cons_zero, List.set_cons_succ]
  refine wpAnyH_take (i := 7) (oi := yO7) (v := ?_) rfl (by kernel_rfl) (by kernel_rfl) (by kernel_rfl) (fun _ _ _ h => h) (Or.inl ⟨by rfl, ?_⟩) hHeld ?_
  rotate_left
  · intro w hSw
    clear hSw
    try dsimp only [yO7]
    go_simp
    try with_reducible rfl
  try simp only [yO7, Act.put, List.setIfInBounds_toArray, List.set_cons_zero, List.set_cons_succ]
  refine wpAnyH_take (i := 8) (oi := yO8) (v := ?_) rfl (by kernel_rfl) (by kernel_rfl) (by kernel_rfl) (fun _ _ _ h => h) (Or.inl ⟨by rfl, ?_⟩) hHeld ?_
  rotate_left
  · intro w hSw
    obtain ⟨q0, q1, q2, q3⟩ := (HP3.out.below hSw hpl3).c4
    clear hSw
    try dsimp only [yO8]
    go_simp
    try with_reducible rfl
  try simp only [yO8, Act.put, List.setIfInBounds_toArray, List.set_cons_zero, List.set_cons_succ]
  refine wpAnyH_take (i := 9) (oi := yO9) (v := .int .u32 (rd % 4294967296)) rfl (by kernel_rfl) (by kernel_rfl) (by kernel_rfl) (fun _ _ _ h => h) (Or.inl ⟨by rfl, ?_⟩) hHeld ?_
  · intro w hSw
    clear hSw
    try dsimp only [yO9]
    go_simp
    first | rfl | omega | (rw [IntKind.wrap_u32])
  try simp only [yO9, Act.put, List.setIfInBounds_toArray, List.set_cons_zero, List.set_cons_succ]
  refine wpAnyH_ready (rs := [5]) (by as_aux_lemma => kernel_rfl) (by simp) ?_
  refine AllReadyH.cons (o := yO5) rfl (fun K hK => ?_) AllReadyH.nil
  dsimp only [yO5]
  go_simp
  refine (HFA.out _).mono ?_
  rintro e u1 ⟨rfl, hb⟩
  go_wp2_with fail
  refine hK.out _ _ (hHeld.trans (hb.mono hHeld.size)) (fun hHeld => ?_)
  clear hK K
  have hv1 : Below V3.heap.size V3 u1 := (below_drewN (Below.refl V3.heap.size V3) 1).trans hb
  refine wpAnyH_more (S' := fun w' => Below u1.heap.size u1 w') (fun _ h => hHeld.trans (h.mono hHeld.size)) _ _ _ _ ?_
  clear hHeld hb
  have hHeld : Below u1.heap.size u1 u1 := Below.refl _ _
  try simp only [Act.put, List.setIfInBounds_toArray, List.set_cons_zero, List.set_cons_succ]
  refine wpAnyH_take (i := 6) (oi := yO6) (v := .string (F1 ++ ⟨#[x]⟩ ++ F3 ++ FA)) rfl (by kernel_rfl) (by kernel_rfl) (by kernel_rfl) (fun _ _ _ h => h) (Or.inl ⟨by rfl, ?_⟩) hHeld ?_
  · intro w hSw
    clear hSw
    try dsimp only [yO6]
    go_simp
    first | omega | (rw [if_neg (by omega)])
  try simp only [yO6, Act.put, List.setIfInBounds_toArray, List.set_cons_zero, List.set_cons_succ]
  refine wpAnyH_ready (rs := [10]) (by as_aux_lemma => kernel_rfl) (by simp) ?_
  refine AllReadyH.cons (o := yO10) rfl (fun K hK => ?_) AllReadyH.nil
  dsimp only [yO10]
  go_simp
  refine (HFB.out _).mono ?_
  rintro e u2 ⟨rfl, hb⟩
  go_wp2_with fail
  refine hK.out _ _ (hHeld.trans (hb.mono hHeld.size)) (fun hHeld => ?_)
  clear hK K
  have hv2 : Below V3.heap.size V3 u2 := hv1.trans (hb.mono hv1.size)
  refine wpAnyH_more (S' := fun w' => Below u2.heap.size u2 w') (fun _ h => hHeld.trans (h.mono hHeld.size)) _ _ _ _ ?_
  clear hHeld hb
  have hHeld : Below u2.heap.size u2 u2 := Below.refl _ _
  try simp only [Act.put, List.setIfInBounds_toArray, List.set_cons_zero, List.set_cons_succ]
  refine wpAnyH_take (i := 11) (oi := yO11) (v := .string (F1 ++ ⟨#[x]⟩ ++ F3 ++ FA ++ FB)) rfl (by kernel_rfl) (by kernel_rfl) (by kernel_rfl) (fun _ _ _ h => h) (Or.inl ⟨by rfl, ?_⟩) hHeld ?_
  · intro w hSw
    clear hSw
    try dsimp only [yO11]
    go_simp
    first | omega | (rw [if_neg (by omega)])
  try simp only [yO11, Act.put, List.setIfInBounds_toArray, List.set_cons_zero, List.set_cons_succ]
  refine wpAnyH_take (i := 12) (oi := yO12) (v := ?_) rfl (by kernel_rfl) (by kernel_rfl) (by kernel_rfl) (fun _ _ _ h => h) (Or.inl ⟨by rfl, ?_⟩) hHeld ?_
  rotate_left
  · intro w hSw
    clear hSw
    try dsimp only [yO12]
    go_simp
    try with_reducible rfl
  try simp only [yO12, Act.put, List.setIfInBounds_toArray, List.set_cons_zero, List.set_cons_succ]
  refine wpAnyH_done (by as_aux_lemma => kernel_rfl) ?_ _
  have HP4 := Lib.hid (HP3.out.below hv2 hpl3)
  have HB4 := Lib.hid (HB3.out.trans (hv2.mono HB3.out.size))
  clear hHeld HP3 HB3
  obtain ⟨p0, p1, p2, p3⟩ := HP4.out.c4
  go_wp2_with fail
  go_ret
  exact ⟨ret_val (val_str HS.out.symm), HB4.out⟩
end Go.Proofs.Ytocbacpbckejdaa
