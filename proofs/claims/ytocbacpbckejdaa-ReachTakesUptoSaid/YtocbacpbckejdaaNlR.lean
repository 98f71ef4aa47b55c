/-
  Contract of reach.Put, family by family. Conditions: sizes.
-/
import Derived.Test.YtocbacpbckejdaaNlQ
import Derived.BigRegion
set_option linter.unusedVariables false
set_option linter.unusedSimpArgs false
namespace Go.Proofs.Ytocbacpbckejdaa
open Go.RowKit

set_option maxRecDepth 100000 in
set_option maxHeartbeats 16000000 in
theorem put_gen (f afi safi : Int) (Z SZ : Nat) (x : UInt8) (hs ahd next : ByteArray) (A : Option Addr) (len cap : Nat) (L : List Nl) (add : Bool) (w : World) (hZ : Z ≤ 8) (hSZ : SZ ≤ 16) (hx : (Z : Int) + SZ = (x.toNat : Nat)) (hn : next.size = SZ) (hhs : hs.size ≤ 1000)
    (hrow : ∀ w, Calls Try.prog 27 #[.int .i64 f] w fun e w' => e = .returned (.tuple #[.agg #[.int .u16 afi, .int .u8 safi, .int .i64 (Z : Nat), .int .i64 (SZ : Nat)], .bool true]) ∧ Below w.heap.size w w')
    (hhe : ∀ w, Calls Try.prog 32 #[.agg #[.int .u16 afi, .int .u8 safi, .int .i64 (Z : Nat), .int .i64 (SZ : Nat)]] w fun e w' => e = .returned (.string hs) ∧ Below w.heap.size w w')
    (hly : ∀ w, NlRow w A len cap L → Calls Try.prog 31 #[.string (hs ++ ⟨#[x]⟩ ++ ⟨(List.replicate Z 0).toArray⟩ ++ next ++ ⟨#[0]⟩), .int .i64 f, .slice A len cap, .bool add] w fun e w' => e = .returned (layR ahd L f add) ∧ Below w.heap.size w w')
    (hr : NlRow w A len cap L) :
    Calls Try.prog 15 #[.int .i64 f, .string next, .slice A len cap, .bool add] w fun e w' => e = .returned (layR ahd L f add) ∧ Below w.heap.size w w' := by
  have HROW := Lib.hid hrow
  have HHE := Lib.hid hhe
  have HLY := Lib.hid hly
  have HX := Lib.hid hx
  have HR := Lib.hid hr
  have hns : ((next.size : Nat) : Int) = (SZ : Nat) := by omega
  have hns2 : next.size ≤ 16 := by omega
  clear hr hn hx hrow hhe hly
  go_enter Try.func15, Try.ntmps15
  go_wp2_with fail
  refine (HROW.out _).mono ?_
  rintro e w1 ⟨rfl, hb⟩
  have HB1 : Hid (Below w.heap.size w (w1.alloc (.cells #[.int .u16 afi, .int .u8 safi, .int .i64 (Z : Nat), .int .i64 (SZ : Nat)] 55))) := hb.alloc hb.size _
  have HX1 : Hid (CellsAt (w1.alloc (.cells #[.int .u16 afi, .int .u8 safi, .int .i64 (Z : Nat), .int .i64 (SZ : Nat)] 55)) w1.heap.size #[.int .u16 afi, .int .u8 safi, .int .i64 (Z : Nat), .int .i64 (SZ : Nat)] 55) := CellsAt.new _ _ _
  have HR1 : Hid (NlRow (w1.alloc (.cells #[.int .u16 afi, .int .u8 safi, .int .i64 (Z : Nat), .int .i64 (SZ : Nat)] 55)) A len cap L) := HR.out.below HB1.out (Nat.le_refl _)
  obtain ⟨x0, x1, x2, x3⟩ := HX1.out.c4
  clear hb HR
  go_wp2_with fail
  generalize w1.alloc (.cells #[.int .u16 afi, .int .u8 safi, .int .i64 (Z : Nat), .int .i64 (SZ : Nat)] 55) = V at HB1 HX1 HR1 x0 x1 x2 x3 ⊢
  have hxl := HX1.out.lt
  clear x0 x1 x2 x3 hns
  refine wp_region_held_drew (S := fun w' => Below V.heap.size V w') (by kernel_rfl) (below_drewN (Below.refl _ _) 1) (fun hHeld => ?_)
  refine wpAnyH_take (i := 0) (oi := pO0) (v := ?_) rfl (by kernel_rfl) (by kernel_rfl) (by kernel_rfl) (fun _ _ _ h => h) (Or.inl ⟨by rfl, ?_⟩) hHeld ?_
  rotate_left
  · intro w hSw
    obtain ⟨x0, x1, x2, x3⟩ := (HX1.out.below hSw hxl).c4
    clear hSw
    try dsimp only [pO0]
    go_simp
    try with_reducible rfl
  try simp only [pO0, Act.put, List.setIfInBounds_toArray, List.set_cons_zero, List.set_cons_succ]
  refine wpAnyH_take (i := 2) (oi := pO2) (v := ?_) rfl (by kernel_rfl) (by kernel_rfl) (by kernel_rfl) (fun _ _ _ h => h) (Or.inl ⟨by rfl, ?_⟩) hHeld ?_
  rotate_left
  · intro w hSw
    clear hSw
    try dsimp only [pO2]
    go_simp
    try with_reducible rfl
  try simp only [pO2, Act.put, List.setIfInBounds_toArray, List.set_cons_zero, List.set_cons_succ]
  refine wpAnyH_take (i := 3) (oi := pO3) (v := ?_) rfl (by kernel_rfl) (by kernel_rfl) (by kernel_rfl) (fun _ _ _ h => h) (Or.inl ⟨by rfl, ?_⟩) hHeld ?_
  rotate_left
  · intro w hSw
    obtain ⟨x0, x1, x2, x3⟩ := (HX1.out.below hSw hxl).c4
    clear hSw
    try dsimp only [pO3]
    go_simp
    try with_reducible rfl
  try simp only [pO3, Act.put, List.setIfInBounds_toArray, List.set_cons_zero, List.set_cons_succ]
  refine wpAnyH_take (i := 4) (oi := pO4) (v := ?_) rfl (by kernel_rfl) (by kernel_rfl) (by kernel_rfl) (fun _ _ _ h => h) (Or.inl ⟨by rfl, ?_⟩) hHeld ?_
  rotate_left
  · intro w hSw
    clear hSw
    try dsimp only [pO4]
    go_simp
    try with_reducible rfl
  try simp only [pO4, Act.put, List.setIfInBounds_toArray, List.set_cons_zero, List.set_cons_succ]
  refine wpAnyH_take (i := 5) (oi := pO5) (v := ?_) rfl (by kernel_rfl) (by kernel_rfl) (by kernel_rfl) (fun _ _ _ h => h) (Or.inl ⟨by rfl, ?_⟩) hHeld ?_
  rotate_left
  · intro w hSw
    obtain ⟨x0, x1, x2, x3⟩ := (HX1.out.below hSw hxl).c4
    clear hSw
    try dsimp only [pO5]
    go_simp
    try with_reducible rfl
  try simp only [pO5, Act.put, List.setIfInBounds_toArray, List.set_cons_zero, List.set_cons_succ]
  refine wpAnyH_take (i := 6) (oi := pO6) (v := ?_) rfl (by kernel_rfl) (by kernel_rfl) (by kernel_rfl) (fun _ _ _ h => h) (Or.inl ⟨by rfl, ?_⟩) hHeld ?_
  rotate_left
  · intro w hSw
    clear hSw
    try dsimp only [pO6]
    go_simp
    try with_reducible rfl
  try simp only [pO6, Act.put, List.setIfInBounds_toArray, List.set_cons_zero, List.set_cons_succ]
  refine wpAnyH_take (i := 7) (oi := pO7) (v := .int .u8 (x.toNat : Nat)) rfl (by kernel_rfl) (by kernel_rfl) (by kernel_rfl) (fun _ _ _ h => h) (Or.inl ⟨by rfl, ?_⟩) hHeld ?_
  · intro w hSw
    clear hSw
    try dsimp only [pO7]
    go_simp
    rw [IntWalk.i64_in _ (by omega), IntWalk.u8_in _ (by have h := HX.out; omega), HX.out]
  try simp only [pO7, Act.put, List.setIfInBounds_toArray, List.set_cons_zero, List.set_cons_succ]
  refine wpAnyH_take (i := 11) (oi := pO11) (v := ?_) rfl (by kernel_rfl) (by kernel_rfl) (by kernel_rfl) (fun _ _ _ h => h) (Or.inl ⟨by rfl, ?_⟩) hHeld ?_
  rotate_left
  · intro w hSw
    clear hSw
    try dsimp only [pO11]
    go_simp
    try with_reducible rfl
  try simp only [pO11, Act.put, List.setIfInBounds_toArray, List.set_cons_zero, List.set_cons_succ]
  refine wpAnyH_take (i := 12) (oi := pO12) (v := ?_) rfl (by kernel_rfl) (by kernel_rfl) (by kernel_rfl) (fun _ _ _ h => h) (Or.inl ⟨by rfl, ?_⟩) hHeld ?_
  rotate_left
  · intro w hSw
    obtain ⟨x0, x1, x2, x3⟩ := (HX1.out.below hSw hxl).c4
    clear hSw
    try dsimp only [pO12]
    go_simp
    try with_reducible rfl
  try simp only [pO12, Act.put, List.setIfInBounds_toArray, List.set_cons_zero, List.set_cons_succ]
  refine wpAnyH_take (i := 16) (oi := pO16) (v := ?_) rfl (by kernel_rfl) (by kernel_rfl) (by kernel_rfl) (fun _ _ _ h => h) (Or.inl ⟨by rfl, ?_⟩) hHeld ?_
  rotate_left
  · intro w hSw
    clear hSw
    try dsimp only [pO16]
    go_simp
    try with_reducible rfl
  try simp only [pO16, Act.put, List.setIfInBounds_toArray, List.set_cons_zero, List.set_cons_succ]
  refine wpAnyH_take (i := 19) (oi := pO19) (v := ?_) rfl (by kernel_rfl) (by kernel_rfl) (by kernel_rfl) (fun _ _ _ h => h) (Or.inl ⟨by rfl, ?_⟩) hHeld ?_
  rotate_left
  · intro w hSw
    clear hSw
    try dsimp only [pO19]
    go_simp
    try with_reducible rfl
  try simp only [pO19, Act.put, List.setIfInBounds_toArray, List.set_cons_zero, List.set_cons_succ]
  refine wpAnyH_take (i := 20) (oi := pO20) (v := ?_) rfl (by kernel_rfl) (by kernel_rfl) (by kernel_rfl) (fun _ _ _ h => h) (Or.inl ⟨by rfl, ?_⟩) hHeld ?_
  rotate_left
  · intro w hSw
    clear hSw
    try dsimp only [pO20]
    go_simp
    try with_reducible rfl
  try simp only [pO20, Act.put, List.setIfInBounds_toArray, List.set_cons_zero, List.set_cons_succ]
  refine wpAnyH_take (i := 21) (oi := pO21) (v := ?_) rfl (by kernel_rfl) (by kernel_rfl) (by kernel_rfl) (fun _ _ _ h => h) (Or.inl ⟨by rfl, ?_⟩) hHeld ?_
  rotate_left
  · intro w hSw
    clear hSw
    try dsimp only [pO21]
    go_simp
    try with_reducible rfl
  try simp only [pO21, Act.put, List.setIfInBounds_toArray, List.set_cons_zero, List.set_cons_succ]
  refine wpAnyH_ready (rs := [1, 8, 13]) (by as_aux_lemma => kernel_rfl) (by simp) ?_
  refine AllReadyH.cons (o := pO1) rfl (fun K hK => ?_) ?_
  · dsimp only [pO1]
    go_simp
    refine (HHE.out _).mono ?_
    rintro e u1 ⟨rfl, hb⟩
    go_wp2_with fail
    refine hK.out _ _ (hHeld.trans (hb.mono hHeld.size)) (fun hHeld => ?_)
    clear hK K
    have hv1 : Below V.heap.size V u1 := (below_drewN (Below.refl V.heap.size V) 1).trans hb
    refine wpAnyH_more (S' := fun w' => Below u1.heap.size u1 w') (fun _ h => hHeld.trans (h.mono hHeld.size)) _ _ _ _ ?_
    clear hHeld hb
    have hHeld : Below u1.heap.size u1 u1 := Below.refl _ _
    try simp only [Act.put, List.setIfInBounds_toArray, List.set_cons_zero, List.set_cons_succ]
    refine wpAnyH_ready (rs := [8, 13]) (by as_aux_lemma => kernel_rfl) (by simp) ?_
    refine AllReadyH.cons (o := pO8) rfl (fun K hK => ?_) ?_
    · refine wp_byte1 (by rfl) _ rfl x _ rfl rfl ?_
      intro u2 HC hb
      refine hK.out _ _ (hHeld.trans (hb.mono hHeld.size)) (fun hHeld => ?_)
      clear hK K
      have hv2 : Below V.heap.size V u2 := hv1.trans (hb.mono hv1.size)
      refine wpAnyH_more (S' := fun w' => Below u2.heap.size u2 w') (fun _ h => hHeld.trans (h.mono hHeld.size)) _ _ _ _ ?_
      clear hHeld hb
      have hHeld : Below u2.heap.size u2 u2 := Below.refl _ _
      try simp only [Act.put, List.setIfInBounds_toArray, List.set_cons_zero, List.set_cons_succ]
      refine wpAnyH_take (i := 9) (oi := pO9) (v := ?_) rfl (by kernel_rfl) (by kernel_rfl) (by kernel_rfl) (fun _ _ _ h => h) (Or.inl ⟨by rfl, ?_⟩) hHeld ?_
      rotate_left
      · intro w hSw
        have hc := conv_at (HC.below hSw HC.lt) (n := 1) (l := [x]) rfl
        clear hSw
        try dsimp only [pO9]
        go_simp
        try rw [hc]
        try with_reducible rfl
      try simp only [pO9, Act.put, List.setIfInBounds_toArray, List.set_cons_zero, List.set_cons_succ]
      clear HC
      refine wpAnyH_take (i := 10) (oi := pO10) (v := .string (hs ++ ⟨#[x]⟩)) rfl (by kernel_rfl) (by kernel_rfl) (by kernel_rfl) (fun _ _ _ h => h) (Or.inl ⟨by rfl, ?_⟩) hHeld ?_
      · intro w hSw
        clear hSw
        try dsimp only [pO10]
        go_simp
        first | omega | (rw [if_neg (by omega)])
      try simp only [pO10, Act.put, List.setIfInBounds_toArray, List.set_cons_zero, List.set_cons_succ]
      refine wpAnyH_ready (rs := [13]) (by as_aux_lemma => kernel_rfl) (by simp) ?_
      refine AllReadyH.cons (o := pO13) rfl (fun K hK => ?_) AllReadyH.nil
      refine wp_make0 (by rfl) _ _ rfl Z (by rfl) (by rfl) (by omega) ?_
      intro u3 HC hb
      refine hK.out _ _ (hHeld.trans (hb.mono hHeld.size)) (fun hHeld => ?_)
      clear hK K
      have hv3 : Below V.heap.size V u3 := hv2.trans (hb.mono hv2.size)
      refine wpAnyH_more (S' := fun w' => Below u3.heap.size u3 w') (fun _ h => hHeld.trans (h.mono hHeld.size)) _ _ _ _ ?_
      clear hHeld hb
      have hHeld : Below u3.heap.size u3 u3 := Below.refl _ _
      try simp only [Act.put, List.setIfInBounds_toArray, List.set_cons_zero, List.set_cons_succ]
      refine wpAnyH_take (i := 14) (oi := pO14) (v := ?_) rfl (by kernel_rfl) (by kernel_rfl) (by kernel_rfl) (fun _ _ _ h => h) (Or.inl ⟨by rfl, ?_⟩) hHeld ?_
      rotate_left
      · intro w hSw
        have hc := conv_at (HC.below hSw HC.lt) (n := Z) (l := List.replicate Z 0) List.length_replicate.symm
        clear hSw
        try dsimp only [pO14]
        go_simp
        try rw [hc]
        try with_reducible rfl
      try simp only [pO14, Act.put, List.setIfInBounds_toArray, List.set_cons_zero, List.set_cons_succ]
      clear HC
      refine wpAnyH_take (i := 15) (oi := pO15) (v := .string (hs ++ ⟨#[x]⟩ ++ ⟨(List.replicate Z 0).toArray⟩)) rfl (by kernel_rfl) (by kernel_rfl) (by kernel_rfl) (fun _ _ _ h => h) (Or.inl ⟨by rfl, ?_⟩) hHeld ?_
      · intro w hSw
        clear hSw
        try dsimp only [pO15]
        go_simp
        first | omega | (rw [if_neg (by omega)])
      try simp only [pO15, Act.put, List.setIfInBounds_toArray, List.set_cons_zero, List.set_cons_succ]
      refine wpAnyH_take (i := 17) (oi := pO17) (v := .string (hs ++ ⟨#[x]⟩ ++ ⟨(List.replicate Z 0).toArray⟩ ++ next)) rfl (by kernel_rfl) (by kernel_rfl) (by kernel_rfl) (fun _ _ _ h => h) (Or.inl ⟨by rfl, ?_⟩) hHeld ?_
      · intro w hSw
        clear hSw
        try dsimp only [pO17]
        go_simp
        first | omega | (rw [if_neg (by omega)])
      try simp only [pO17, Act.put, List.setIfInBounds_toArray, List.set_cons_zero, List.set_cons_succ]
      refine wpAnyH_take (i := 18) (oi := pO18) (v := .string (hs ++ ⟨#[x]⟩ ++ ⟨(List.replicate Z 0).toArray⟩ ++ next ++ ⟨#[0]⟩)) rfl (by kernel_rfl) (by kernel_rfl) (by kernel_rfl) (fun _ _ _ h => h) (Or.inl ⟨by rfl, ?_⟩) hHeld ?_
      · intro w hSw
        clear hSw
        try dsimp only [pO18]
        go_simp
        first | omega | (rw [if_neg (by omega)])
      try simp only [pO18, Act.put, List.setIfInBounds_toArray, List.set_cons_zero, List.set_cons_succ]
      refine wpAnyH_ready (rs := [22]) (by as_aux_lemma => kernel_rfl) (by simp) ?_
      refine AllReadyH.cons (o := pO22) rfl (fun K hK => ?_) AllReadyH.nil
      dsimp only [pO22]
      go_simp
      refine (HLY.out _ (HR1.out.below hv3 (Nat.le_refl _))).mono ?_
      rintro e w9 ⟨rfl, hb⟩
      obtain ⟨s9, z9, hs9⟩ := layR_form ahd L f add
      have HS9 := Lib.hid hs9
      rw [hs9]
      clear hs9
      go_wp2_with fail
      refine hK.out _ _ hb (fun hHeld => ?_)
      have HBE := Lib.hid (HB1.out.trans ((hv3.trans (hb.mono hv3.size)).mono HB1.out.size))
      clear hK K hb
      try simp only [Act.put, List.setIfInBounds_toArray, List.set_cons_zero, List.set_cons_succ]
      refine wpAnyH_take (i := 23) (oi := pO23) (v := ?_) rfl (by kernel_rfl) (by kernel_rfl) (by kernel_rfl) (fun _ _ _ h => h) (Or.inl ⟨by rfl, ?_⟩) hHeld ?_
      rotate_left
      · intro w hSw
        clear hSw
        try dsimp only [pO23]
        go_simp
        try with_reducible rfl
      try simp only [pO23, Act.put, List.setIfInBounds_toArray, List.set_cons_zero, List.set_cons_succ]
      refine wpAnyH_take (i := 24) (oi := pO24) (v := ?_) rfl (by kernel_rfl) (by kernel_rfl) (by kernel_rfl) (fun _ _ _ h => h) (Or.inl ⟨by rfl, ?_⟩) hHeld ?_
      rotate_left
      · intro w hSw
        clear hSw
        try dsimp only [pO24]
        go_simp
        try with_reducible rfl
      try simp only [pO24, Act.put, List.setIfInBounds_toArray, List.set_cons_zero, List.set_cons_succ]
      refine wpAnyH_take (i := 25) (oi := pO25) (v := ?_) rfl (by kernel_rfl) (by kernel_rfl) (by kernel_rfl) (fun _ _ _ h => h) (Or.inl ⟨by rfl, ?_⟩) hHeld ?_
      rotate_left
      · intro w hSw
        clear hSw
        try dsimp only [pO25]
        go_simp
        try with_reducible rfl
      try simp only [pO25, Act.put, List.setIfInBounds_toArray, List.set_cons_zero, List.set_cons_succ]
      refine wpAnyH_take (i := 26) (oi := pO26) (v := ?_) rfl (by kernel_rfl) (by kernel_rfl) (by kernel_rfl) (fun _ _ _ h => h) (Or.inl ⟨by rfl, ?_⟩) hHeld ?_
      rotate_left
      · intro w hSw
        clear hSw
        try dsimp only [pO26]
        go_simp
        try with_reducible rfl
      try simp only [pO26, Act.put, List.setIfInBounds_toArray, List.set_cons_zero, List.set_cons_succ]
      refine wpAnyH_done (by as_aux_lemma => kernel_rfl) ?_ _
      clear hHeld
      go_wp2_with fail
      go_ret2
      exact ⟨ret_val HS9.out.symm, HBE.out⟩
    refine AllReadyH.cons (o := pO13) rfl (fun K hK => ?_) AllReadyH.nil
    refine wp_make0 (by rfl) _ _ rfl Z (by rfl) (by rfl) (by omega) ?_
    intro u4 HC hb
    refine hK.out _ _ (hHeld.trans (hb.mono hHeld.size)) (fun hHeld => ?_)
    clear hK K
    have hv4 : Below V.heap.size V u4 := hv1.trans (hb.mono hv1.size)
    refine wpAnyH_more (S' := fun w' => Below u4.heap.size u4 w') (fun _ h => hHeld.trans (h.mono hHeld.size)) _ _ _ _ ?_
    clear hHeld hb
    have hHeld : Below u4.heap.size u4 u4 := Below.refl _ _
    try simp only [Act.put, List.setIfInBounds_toArray, List.set_cons_zero, List.set_cons_succ]
    refine wpAnyH_take (i := 14) (oi := pO14) (v := ?_) rfl (by kernel_rfl) (by kernel_rfl) (by kernel_rfl) (fun _ _ _ h => h) (Or.inl ⟨by rfl, ?_⟩) hHeld ?_
    rotate_left
    · intro w hSw
      have hc := conv_at (HC.below hSw HC.lt) (n := Z) (l := List.replicate Z 0) List.length_replicate.symm
      clear hSw
      try dsimp only [pO14]
      go_simp
      try rw [hc]
      try with_reducible rfl
    try simp only [pO14, Act.put, List.setIfInBounds_toArray, List.set_cons_zero, List.set_cons_succ]
    clear HC
    refine wpAnyH_ready (rs := [8]) (by as_aux_lemma => kernel_rfl) (by simp) ?_
    refine AllReadyH.cons (o := pO8) rfl (fun K hK => ?_) AllReadyH.nil
    refine wp_byte1 (by rfl) _ rfl x _ rfl rfl ?_
    intro u5 HC hb
    refine hK.out _ _ (hHeld.trans (hb.mono hHeld.size)) (fun hHeld => ?_)
    clear hK K
    have hv5 : Below V.heap.size V u5 := hv4.trans (hb.mono hv4.size)
    refine wpAnyH_more (S' := fun w' => Below u5.heap.size u5 w') (fun _ h => hHeld.trans (h.mono hHeld.size)) _ _ _ _ ?_
    clear hHeld hb
    have hHeld : Below u5.heap.size u5 u5 := Below.refl _ _
    try simp only [Act.put, List.setIfInBounds_toArray, List.set_cons_zero, List.set_cons_succ]
    refine wpAnyH_take (i := 9) (oi := pO9) (v := ?_) rfl (by kernel_rfl) (by kernel_rfl) (by kernel_rfl) (fun _ _ _ h => h) (Or.inl ⟨by rfl, ?_⟩) hHeld ?_
    rotate_left
    · intro w hSw
      have hc := conv_at (HC.below hSw HC.lt) (n := 1) (l := [x]) rfl
      clear hSw
      try dsimp only [pO9]
      go_simp
      try rw [hc]
      try with_reducible rfl
    try simp only [pO9, Act.put, List.setIfInBounds_toArray, List.set_cons_zero, List.set_cons_succ]
    clear HC
    refine wpAnyH_take (i := 10) (oi := pO10) (v := .string (hs ++ ⟨#[x]⟩)) rfl (by kernel_rfl) (by kernel_rfl) (by kernel_rfl) (fun _ _ _ h => h) (Or.inl ⟨by rfl, ?_⟩) hHeld ?_
    · intro w hSw
      clear hSw
      try dsimp only [pO10]
      go_simp
      first | omega | (rw [if_neg (by omega)])
    try simp only [pO10, Act.put, List.setIfInBounds_toArray, List.set_cons_zero, List.set_cons_succ]
    refine wpAnyH_take (i := 15) (oi := pO15) (v := .string (hs ++ ⟨#[x]⟩ ++ ⟨(List.replicate Z 0).toArray⟩)) rfl (by kernel_rfl) (by kernel_rfl) (by kernel_rfl) (fun _ _ _ h => h) (Or.inl ⟨by rfl, ?_⟩) hHeld ?_
    · intro w hSw
      clear hSw
      try dsimp only [pO15]
      go_simp
      first | omega | (rw [if_neg (by omega)])
    try simp only [pO15, Act.put, List.setIfInBounds_toArray, List.set_cons_zero, List.set_cons_succ]
    refine wpAnyH_take (i := 17) (oi := pO17) (v := .string (hs ++ ⟨#[x]⟩ ++ ⟨(List.replicate Z 0).toArray⟩ ++ next)) rfl (by kernel_rfl) (by kernel_rfl) (by kernel_rfl) (fun _ _ _ h => h) (Or.inl ⟨by rfl, ?_⟩) hHeld ?_
    · intro w hSw
      clear hSw
      try dsimp only [pO17]
      go_simp
      first | omega | (rw [if_neg (by omega)])
    try simp only [pO17, Act.put, List.setIfInBounds_toArray, List.set_cons_zero, List.set_cons_succ]
    refine wpAnyH_take (i := 18) (oi := pO18) (v := .string (hs ++ ⟨#[x]⟩ ++ ⟨(List.replicate Z 0).toArray⟩ ++ next ++ ⟨#[0]⟩)) rfl (by kernel_rfl) (by kernel_rfl) (by kernel_rfl) (fun _ _ _ h => h) (Or.inl ⟨by rfl, ?_⟩) hHeld ?_
    · intro w hSw
      clear hSw
      try dsimp only [pO18]
      go_simp
      first | omega | (rw [if_neg (by omega)])
    try simp only [pO18, Act.put, List.setIfInBounds_toArray, List.set_cons_zero, List.set_cons_succ]
    refine wpAnyH_ready (rs := [22]) (by as_aux_lemma => kernel_rfl) (by simp) ?_
    refine AllReadyH.cons (o := pO22) rfl (fun K hK => ?_) AllReadyH.nil
    dsimp only [pO22]
    go_simp
    refine (HLY.out _ (HR1.out.below hv5 (Nat.le_refl _))).mono ?_
    rintro e w9 ⟨rfl, hb⟩
    obtain ⟨s9, z9, hs9⟩ := layR_form ahd L f add
    have HS9 := Lib.hid hs9
    rw [hs9]
    clear hs9
    go_wp2_with fail
    refine hK.out _ _ hb (fun hHeld => ?_)
    have HBE := Lib.hid (HB1.out.trans ((hv5.trans (hb.mono hv5.size)).mono HB1.out.size))
    clear hK K hb
    try simp only [Act.put, List.setIfInBounds_toArray, List.set_cons_zero, List.set_cons_succ]
    refine wpAnyH_take (i := 23) (oi := pO23) (v := ?_) rfl (by kernel_rfl) (by kernel_rfl) (by kernel_rfl) (fun _ _ _ h => h) (Or.inl ⟨by rfl, ?_⟩) hHeld ?_
    rotate_left
    · intro w hSw
      clear hSw
      try dsimp only [pO23]
      go_simp
      try with_reducible rfl
    try simp only [pO23, Act.put, List.setIfInBounds_toArray, List.set_cons_zero, List.set_cons_succ]
    refine wpAnyH_take (i := 24) (oi := pO24) (v := ?_) rfl (by kernel_rfl) (by kernel_rfl) (by kernel_rfl) (fun _ _ _ h => h) (Or.inl ⟨by rfl, ?_⟩) hHeld ?_
    rotate_left
    · intro w hSw
      clear hSw
      try dsimp only [pO24]
      go_simp
      try with_reducible rfl
    try simp only [pO24, Act.put, List.setIfInBounds_toArray, List.set_cons_zero, List.set_cons_succ]
    refine wpAnyH_take (i := 25) (oi := pO25) (v := ?_) rfl (by kernel_rfl) (by kernel_rfl) (by kernel_rfl) (fun _ _ _ h => h) (Or.inl ⟨by rfl, ?_⟩) hHeld ?_
    rotate_left
    · intro w hSw
      clear hSw
      try dsimp only [pO25]
      go_simp
      try with_reducible rfl
    try simp only [pO25, Act.put, List.setIfInBounds_toArray, List.set_cons_zero, List.set_cons_succ]
    refine wpAnyH_take (i := 26) (oi := pO26) (v := ?_) rfl (by kernel_rfl) (by kernel_rfl) (by kernel_rfl) (fun _ _ _ h => h) (Or.inl ⟨by rfl, ?_⟩) hHeld ?_
    rotate_left
    · intro w hSw
      clear hSw
      try dsimp only [pO26]
      go_simp
      try with_reducible rfl
    try simp only [pO26, Act.put, List.setIfInBounds_toArray, List.set_cons_zero, List.set_cons_succ]
    refine wpAnyH_done (by as_aux_lemma => kernel_rfl) ?_ _
    clear hHeld
    go_wp2_with fail
    go_ret2
    exact ⟨ret_val HS9.out.symm, HBE.out⟩
  refine AllReadyH.cons (o := pO8) rfl (fun K hK => ?_) ?_
  · refine wp_byte1 (by rfl) _ rfl x _ rfl rfl ?_
    intro u6 HC hb
    replace HC : CellsAt u6 V.heap.size _ _ := HC
    refine hK.out _ _ (hHeld.trans (hb.mono hHeld.size)) (fun hHeld => ?_)
    clear hK K
    have hv6 : Below V.heap.size V u6 := (below_drewN (Below.refl V.heap.size V) 1).trans hb
    refine wpAnyH_more (S' := fun w' => Below u6.heap.size u6 w') (fun _ h => hHeld.trans (h.mono hHeld.size)) _ _ _ _ ?_
    clear hHeld hb
    have hHeld : Below u6.heap.size u6 u6 := Below.refl _ _
    try simp only [Act.put, List.setIfInBounds_toArray, List.set_cons_zero, List.set_cons_succ]
    refine wpAnyH_take (i := 9) (oi := pO9) (v := ?_) rfl (by kernel_rfl) (by kernel_rfl) (by kernel_rfl) (fun _ _ _ h => h) (Or.inl ⟨by rfl, ?_⟩) hHeld ?_
    rotate_left
    · intro w hSw
      have hc := conv_at (HC.below hSw HC.lt) (n := 1) (l := [x]) rfl
      clear hSw
      try dsimp only [pO9]
      go_simp
      try rw [hc]
      try with_reducible rfl
    try simp only [pO9, Act.put, List.setIfInBounds_toArray, List.set_cons_zero, List.set_cons_succ]
    clear HC
    refine wpAnyH_ready (rs := [1, 13]) (by as_aux_lemma => kernel_rfl) (by simp) ?_
    refine AllReadyH.cons (o := pO1) rfl (fun K hK => ?_) ?_
    · dsimp only [pO1]
      go_simp
      refine (HHE.out _).mono ?_
      rintro e u7 ⟨rfl, hb⟩
      go_wp2_with fail
      refine hK.out _ _ (hHeld.trans (hb.mono hHeld.size)) (fun hHeld => ?_)
      clear hK K
      have hv7 : Below V.heap.size V u7 := hv6.trans (hb.mono hv6.size)
      refine wpAnyH_more (S' := fun w' => Below u7.heap.size u7 w') (fun _ h => hHeld.trans (h.mono hHeld.size)) _ _ _ _ ?_
      clear hHeld hb
      have hHeld : Below u7.heap.size u7 u7 := Below.refl _ _
      try simp only [Act.put, List.setIfInBounds_toArray, List.set_cons_zero, List.set_cons_succ]
      refine wpAnyH_take (i := 10) (oi := pO10) (v := .string (hs ++ ⟨#[x]⟩)) rfl (by kernel_rfl) (by kernel_rfl) (by kernel_rfl) (fun _ _ _ h => h) (Or.inl ⟨by rfl, ?_⟩) hHeld ?_
      · intro w hSw
        clear hSw
        try dsimp only [pO10]
        go_simp
        first | omega | (rw [if_neg (by omega)])
      try simp only [pO10, Act.put, List.setIfInBounds_toArray, List.set_cons_zero, List.set_cons_succ]
      refine wpAnyH_ready (rs := [13]) (by as_aux_lemma => kernel_rfl) (by simp) ?_
      refine AllReadyH.cons (o := pO13) rfl (fun K hK => ?_) AllReadyH.nil
      refine wp_make0 (by rfl) _ _ rfl Z (by rfl) (by rfl) (by omega) ?_
      intro u8 HC hb
      refine hK.out _ _ (hHeld.trans (hb.mono hHeld.size)) (fun hHeld => ?_)
      clear hK K
      have hv8 : Below V.heap.size V u8 := hv7.trans (hb.mono hv7.size)
      refine wpAnyH_more (S' := fun w' => Below u8.heap.size u8 w') (fun _ h => hHeld.trans (h.mono hHeld.size)) _ _ _ _ ?_
      clear hHeld hb
      have hHeld : Below u8.heap.size u8 u8 := Below.refl _ _
      try simp only [Act.put, List.setIfInBounds_toArray, List.set_cons_zero, List.set_cons_succ]
      refine wpAnyH_take (i := 14) (oi := pO14) (v := ?_) rfl (by kernel_rfl) (by kernel_rfl) (by kernel_rfl) (fun _ _ _ h => h) (Or.inl ⟨by rfl, ?_⟩) hHeld ?_
      rotate_left
      · intro w hSw
        have hc := conv_at (HC.below hSw HC.lt) (n := Z) (l := List.replicate Z 0) List.length_replicate.symm
        clear hSw
        try dsimp only [pO14]
        go_simp
        try rw [hc]
        try with_reducible rfl
      try simp only [pO14, Act.put, List.setIfInBounds_toArray, List.set_cons_zero, List.set_cons_succ]
      clear HC
      refine wpAnyH_take (i := 15) (oi := pO15) (v := .string (hs ++ ⟨#[x]⟩ ++ ⟨(List.replicate Z 0).toArray⟩)) rfl (by kernel_rfl) (by kernel_rfl) (by kernel_rfl) (fun _ _ _ h => h) (Or.inl ⟨by rfl, ?_⟩) hHeld ?_
      · intro w hSw
        clear hSw
        try dsimp only [pO15]
        go_simp
        first | omega | (rw [if_neg (by omega)])
      try simp only [pO15, Act.put, List.setIfInBounds_toArray, List.set_cons_zero, List.set_cons_succ]
      refine wpAnyH_take (i := 17) (oi := pO17) (v := .string (hs ++ ⟨#[x]⟩ ++ ⟨(List.replicate Z 0).toArray⟩ ++ next)) rfl (by kernel_rfl) (by kernel_rfl) (by kernel_rfl) (fun _ _ _ h => h) (Or.inl ⟨by rfl, ?_⟩) hHeld ?_
      · intro w hSw
        clear hSw
        try dsimp only [pO17]
        go_simp
        first | omega | (rw [if_neg (by omega)])
      try simp only [pO17, Act.put, List.setIfInBounds_toArray, List.set_cons_zero, List.set_cons_succ]
      refine wpAnyH_take (i := 18) (oi := pO18) (v := .string (hs ++ ⟨#[x]⟩ ++ ⟨(List.replicate Z 0).toArray⟩ ++ next ++ ⟨#[0]⟩)) rfl (by kernel_rfl) (by kernel_rfl) (by kernel_rfl) (fun _ _ _ h => h) (Or.inl ⟨by rfl, ?_⟩) hHeld ?_
      · intro w hSw
        clear hSw
        try dsimp only [pO18]
        go_simp
        first | omega | (rw [if_neg (by omega)])
      try simp only [pO18, Act.put, List.setIfInBounds_toArray, List.set_cons_zero, List.set_cons_succ]
      refine wpAnyH_ready (rs := [22]) (by as_aux_lemma => kernel_rfl) (by simp) ?_
      refine AllReadyH.cons (o := pO22) rfl (fun K hK => ?_) AllReadyH.nil
      dsimp only [pO22]
      go_simp
      refine (HLY.out _ (HR1.out.below hv8 (Nat.le_refl _))).mono ?_
      rintro e w9 ⟨rfl, hb⟩
      obtain ⟨s9, z9, hs9⟩ := layR_form ahd L f add
      have HS9 := Lib.hid hs9
      rw [hs9]
      clear hs9
      go_wp2_with fail
      refine hK.out _ _ hb (fun hHeld => ?_)
      have HBE := Lib.hid (HB1.out.trans ((hv8.trans (hb.mono hv8.size)).mono HB1.out.size))
      clear hK K hb
      try simp only [Act.put, List.setIfInBounds_toArray, List.set_cons_zero, List.set_cons_succ]
      refine wpAnyH_take (i := 23) (oi := pO23) (v := ?_) rfl (by kernel_rfl) (by kernel_rfl) (by kernel_rfl) (fun _ _ _ h => h) (Or.inl ⟨by rfl, ?_⟩) hHeld ?_
      rotate_left
      · intro w hSw
        clear hSw
        try dsimp only [pO23]
        go_simp
        try with_reducible rfl
      try simp only [pO23, Act.put, List.setIfInBounds_toArray, List.set_cons_zero, List.set_cons_succ]
      refine wpAnyH_take (i := 24) (oi := pO24) (v := ?_) rfl (by kernel_rfl) (by kernel_rfl) (by kernel_rfl) (fun _ _ _ h => h) (Or.inl ⟨by rfl, ?_⟩) hHeld ?_
      rotate_left
      · intro w hSw
        clear hSw
        try dsimp only [pO24]
        go_simp
        try with_reducible rfl
      try simp only [pO24, Act.put, List.setIfInBounds_toArray, List.set_cons_zero, List.set_cons_succ]
      refine wpAnyH_take (i := 25) (oi := pO25) (v := ?_) rfl (by kernel_rfl) (by kernel_rfl) (by kernel_rfl) (fun _ _ _ h => h) (Or.inl ⟨by rfl, ?_⟩) hHeld ?_
      rotate_left
      · intro w hSw
        clear hSw
        try dsimp only [pO25]
        go_simp
        try with_reducible rfl
      try simp only [pO25, Act.put, List.setIfInBounds_toArray, List.set_cons_zero, List.set_cons_succ]
      refine wpAnyH_take (i := 26) (oi := pO26) (v := ?_) rfl (by kernel_rfl) (by kernel_rfl) (by kernel_rfl) (fun _ _ _ h => h) (Or.inl ⟨by rfl, ?_⟩) hHeld ?_
      rotate_left
      · intro w hSw
        clear hSw
        try dsimp only [pO26]
        go_simp
        try with_reducible rfl
      try simp only [pO26, Act.put, List.setIfInBounds_toArray, List.set_cons_zero, List.set_cons_succ]
      refine wpAnyH_done (by as_aux_lemma => kernel_rfl) ?_ _
      clear hHeld
      go_wp2_with fail
      go_ret2
      exact ⟨ret_val HS9.out.symm, HBE.out⟩
    refine AllReadyH.cons (o := pO13) rfl (fun K hK => ?_) AllReadyH.nil
    refine wp_make0 (by rfl) _ _ rfl Z (by rfl) (by rfl) (by omega) ?_
    intro u9 HC hb
    refine hK.out _ _ (hHeld.trans (hb.mono hHeld.size)) (fun hHeld => ?_)
    clear hK K
    have hv9 : Below V.heap.size V u9 := hv6.trans (hb.mono hv6.size)
    refine wpAnyH_more (S' := fun w' => Below u9.heap.size u9 w') (fun _ h => hHeld.trans (h.mono hHeld.size)) _ _ _ _ ?_
    clear hHeld hb
    have hHeld : Below u9.heap.size u9 u9 := Below.refl _ _
    try simp only [Act.put, List.setIfInBounds_toArray, List.set_cons_zero, List.set_cons_succ]
    refine wpAnyH_take (i := 14) (oi := pO14) (v := ?_) rfl (by kernel_rfl) (by kernel_rfl) (by kernel_rfl) (fun _ _ _ h => h) (Or.inl ⟨by rfl, ?_⟩) hHeld ?_
    rotate_left
    · intro w hSw
      have hc := conv_at (HC.below hSw HC.lt) (n := Z) (l := List.replicate Z 0) List.length_replicate.symm
      clear hSw
      try dsimp only [pO14]
      go_simp
      try rw [hc]
      try with_reducible rfl
    try simp only [pO14, Act.put, List.setIfInBounds_toArray, List.set_cons_zero, List.set_cons_succ]
    clear HC
    refine wpAnyH_ready (rs := [1]) (by as_aux_lemma => kernel_rfl) (by simp) ?_
    refine AllReadyH.cons (o := pO1) rfl (fun K hK => ?_) AllReadyH.nil
    dsimp only [pO1]
    go_simp
    refine (HHE.out _).mono ?_
    rintro e u10 ⟨rfl, hb⟩
    go_wp2_with fail
    refine hK.out _ _ (hHeld.trans (hb.mono hHeld.size)) (fun hHeld => ?_)
    clear hK K
    have hv10 : Below V.heap.size V u10 := hv9.trans (hb.mono hv9.size)
    refine wpAnyH_more (S' := fun w' => Below u10.heap.size u10 w') (fun _ h => hHeld.trans (h.mono hHeld.size)) _ _ _ _ ?_
    clear hHeld hb
    have hHeld : Below u10.heap.size u10 u10 := Below.refl _ _
    try simp only [Act.put, List.setIfInBounds_toArray, List.set_cons_zero, List.set_cons_succ]
    refine wpAnyH_take (i := 10) (oi := pO10) (v := .string (hs ++ ⟨#[x]⟩)) rfl (by kernel_rfl) (by kernel_rfl) (by kernel_rfl) (fun _ _ _ h => h) (Or.inl ⟨by rfl, ?_⟩) hHeld ?_
    · intro w hSw
      clear hSw
      try dsimp only [pO10]
      go_simp
      first | omega | (rw [if_neg (by omega)])
    try simp only [pO10, Act.put, List.setIfInBounds_toArray, List.set_cons_zero, List.set_cons_succ]
    refine wpAnyH_take (i := 15) (oi := pO15) (v := .string (hs ++ ⟨#[x]⟩ ++ ⟨(List.replicate Z 0).toArray⟩)) rfl (by kernel_rfl) (by kernel_rfl) (by kernel_rfl) (fun _ _ _ h => h) (Or.inl ⟨by rfl, ?_⟩) hHeld ?_
    · intro w hSw
      clear hSw
      try dsimp only [pO15]
      go_simp
      first | omega | (rw [if_neg (by omega)])
    try simp only [pO15, Act.put, List.setIfInBounds_toArray, List.set_cons_zero, List.set_cons_succ]
    refine wpAnyH_take (i := 17) (oi := pO17) (v := .string (hs ++ ⟨#[x]⟩ ++ ⟨(List.replicate Z 0).toArray⟩ ++ next)) rfl (by kernel_rfl) (by kernel_rfl) (by kernel_rfl) (fun _ _ _ h => h) (Or.inl ⟨by rfl, ?_⟩) hHeld ?_
    · intro w hSw
      clear hSw
      try dsimp only [pO17]
      go_simp
      first | omega | (rw [if_neg (by omega)])
    try simp only [pO17, Act.put, List.setIfInBounds_toArray, List.set_cons_zero, List.set_cons_succ]
    refine wpAnyH_take (i := 18) (oi := pO18) (v := .string (hs ++ ⟨#[x]⟩ ++ ⟨(List.replicate Z 0).toArray⟩ ++ next ++ ⟨#[0]⟩)) rfl (by kernel_rfl) (by kernel_rfl) (by kernel_rfl) (fun _ _ _ h => h) (Or.inl ⟨by rfl, ?_⟩) hHeld ?_
    · intro w hSw
      clear hSw
      try dsimp only [pO18]
      go_simp
      first | omega | (rw [if_neg (by omega)])
    try simp only [pO18, Act.put, List.setIfInBounds_toArray, List.set_cons_zero, List.set_cons_succ]
    refine wpAnyH_ready (rs := [22]) (by as_aux_lemma => kernel_rfl) (by simp) ?_
    refine AllReadyH.cons (o := pO22) rfl (fun K hK => ?_) AllReadyH.nil
    dsimp only [pO22]
    go_simp
    refine (HLY.out _ (HR1.out.below hv10 (Nat.le_refl _))).mono ?_
    rintro e w9 ⟨rfl, hb⟩
    obtain ⟨s9, z9, hs9⟩ := layR_form ahd L f add
    have HS9 := Lib.hid hs9
    rw [hs9]
    clear hs9
    go_wp2_with fail
    refine hK.out _ _ hb (fun hHeld => ?_)
    have HBE := Lib.hid (HB1.out.trans ((hv10.trans (hb.mono hv10.size)).mono HB1.out.size))
    clear hK K hb
    try simp only [Act.put, List.setIfInBounds_toArray, List.set_cons_zero, List.set_cons_succ]
    refine wpAnyH_take (i := 23) (oi := pO23) (v := ?_) rfl (by kernel_rfl) (by kernel_rfl) (by kernel_rfl) (fun _ _ _ h => h) (Or.inl ⟨by rfl, ?_⟩) hHeld ?_
    rotate_left
    · intro w hSw
      clear hSw
      try dsimp only [pO23]
      go_simp
      try with_reducible rfl
    try simp only [pO23, Act.put, List.setIfInBounds_toArray, List.set_cons_zero, List.set_cons_succ]
    refine wpAnyH_take (i := 24) (oi := pO24) (v := ?_) rfl (by kernel_rfl) (by kernel_rfl) (by kernel_rfl) (fun _ _ _ h => h) (Or.inl ⟨by rfl, ?_⟩) hHeld ?_
    rotate_left
    · intro w hSw
      clear hSw
      try dsimp only [pO24]
      go_simp
      try with_reducible rfl
    try simp only [pO24, Act.put, List.setIfInBounds_toArray, List.set_cons_zero, List.set_cons_succ]
    refine wpAnyH_take (i := 25) (oi := pO25) (v := ?_) rfl (by kernel_rfl) (by kernel_rfl) (by kernel_rfl) (fun _ _ _ h => h) (Or.inl ⟨by rfl, ?_⟩) hHeld ?_
    rotate_left
    · intro w hSw
      clear hSw
      try dsimp only [pO25]
      go_simp
      try with_reducible rfl
    try simp only [pO25, Act.put, List.setIfInBounds_toArray, List.set_cons_zero, List.set_cons_succ]
    refine wpAnyH_take (i := 26) (oi := pO26) (v := ?_) rfl (by kernel_rfl) (by kernel_rfl) (by kernel_rfl) (fun _ _ _ h => h) (Or.inl ⟨by rfl, ?_⟩) hHeld ?_
    rotate_left
    · intro w hSw
      clear hSw
      try dsimp only [pO26]
      go_simp
      try with_reducible rfl
    try simp only [pO26, Act.put, List.setIfInBounds_toArray, List.set_cons_zero, List.set_cons_succ]
    refine wpAnyH_done (by as_aux_lemma => kernel_rfl) ?_ _
    clear hHeld
    go_wp2_with fail
    go_ret2
    exact ⟨ret_val HS9.out.symm, HBE.out⟩
  refine AllReadyH.cons (o := pO13) rfl (fun K hK => ?_) AllReadyH.nil
  refine wp_make0 (by rfl) _ _ rfl Z (by rfl) (by rfl) (by omega) ?_
  intro u11 HC hb
  replace HC : CellsAt u11 V.heap.size _ _ := HC
  refine hK.out _ _ (hHeld.trans (hb.mono hHeld.size)) (fun hHeld => ?_)
  clear hK K
  have hv11 : Below V.heap.size V u11 := (below_drewN (Below.refl V.heap.size V) 1).trans hb
  refine wpAnyH_more (S' := fun w' => Below u11.heap.size u11 w') (fun _ h => hHeld.trans (h.mono hHeld.size)) _ _ _ _ ?_
  clear hHeld hb
  have hHeld : Below u11.heap.size u11 u11 := Below.refl _ _
  try simp only [Act.put, List.setIfInBounds_toArray, List.set_cons_zero, List.set_cons_succ]
  refine wpAnyH_take (i := 14) (oi := pO14) (v := ?_) rfl (by kernel_rfl) (by kernel_rfl) (by kernel_rfl) (fun _ _ _ h => h) (Or.inl ⟨by rfl, ?_⟩) hHeld ?_
  rotate_left
  · intro w hSw
    have hc := conv_at (HC.below hSw HC.lt) (n := Z) (l := List.replicate Z 0) List.length_replicate.symm
    clear hSw
    try dsimp only [pO14]
    go_simp
    try rw [hc]
    try with_reducible rfl
  try simp only [pO14, Act.put, List.setIfInBounds_toArray, List.set_cons_zero, List.set_cons_succ]
  clear HC
  refine wpAnyH_ready (rs := [1, 8]) (by as_aux_lemma => kernel_rfl) (by simp) ?_
  refine AllReadyH.cons (o := pO1) rfl (fun K hK => ?_) ?_
  · dsimp only [pO1]
    go_simp
    refine (HHE.out _).mono ?_
    rintro e u12 ⟨rfl, hb⟩
    go_wp2_with fail
    refine hK.out _ _ (hHeld.trans (hb.mono hHeld.size)) (fun hHeld => ?_)
    clear hK K
    have hv12 : Below V.heap.size V u12 := hv11.trans (hb.mono hv11.size)
    refine wpAnyH_more (S' := fun w' => Below u12.heap.size u12 w') (fun _ h => hHeld.trans (h.mono hHeld.size)) _ _ _ _ ?_
    clear hHeld hb
    have hHeld : Below u12.heap.size u12 u12 := Below.refl _ _
    try simp only [Act.put, List.setIfInBounds_toArray, List.set_cons_zero, List.set_cons_succ]
    refine wpAnyH_ready (rs := [8]) (by as_aux_lemma => kernel_rfl) (by simp) ?_
    refine AllReadyH.cons (o := pO8) rfl (fun K hK => ?_) AllReadyH.nil
    refine wp_byte1 (by rfl) _ rfl x _ rfl rfl ?_
    intro u13 HC hb
    refine hK.out _ _ (hHeld.trans (hb.mono hHeld.size)) (fun hHeld => ?_)
    clear hK K
    have hv13 : Below V.heap.size V u13 := hv12.trans (hb.mono hv12.size)
    refine wpAnyH_more (S' := fun w' => Below u13.heap.size u13 w') (fun _ h => hHeld.trans (h.mono hHeld.size)) _ _ _ _ ?_
    clear hHeld hb
    have hHeld : Below u13.heap.size u13 u13 := Below.refl _ _
    try simp only [Act.put, List.setIfInBounds_toArray, List.set_cons_zero, List.set_cons_succ]
    refine wpAnyH_take (i := 9) (oi := pO9) (v := ?_) rfl (by kernel_rfl) (by kernel_rfl) (by kernel_rfl) (fun _ _ _ h => h) (Or.inl ⟨by rfl, ?_⟩) hHeld ?_
    rotate_left
    · intro w hSw
      have hc := conv_at (HC.below hSw HC.lt) (n := 1) (l := [x]) rfl
      clear hSw
      try dsimp only [pO9]
      go_simp
      try rw [hc]
      try with_reducible rfl
    try simp only [pO9, Act.put, List.setIfInBounds_toArray, List.set_cons_zero, List.set_cons_succ]
    clear HC
    refine wpAnyH_take (i := 10) (oi := pO10) (v := .string (hs ++ ⟨#[x]⟩)) rfl (by kernel_rfl) (by kernel_rfl) (by kernel_rfl) (fun _ _ _ h => h) (Or.inl ⟨by rfl, ?_⟩) hHeld ?_
    · intro w hSw
      clear hSw
      try dsimp only [pO10]
      go_simp
      first | omega | (rw [if_neg (by omega)])
    try simp only [pO10, Act.put, List.setIfInBounds_toArray, List.set_cons_zero, List.set_cons_succ]
    refine wpAnyH_take (i := 15) (oi := pO15) (v := .string (hs ++ ⟨#[x]⟩ ++ ⟨(List.replicate Z 0).toArray⟩)) rfl (by kernel_rfl) (by kernel_rfl) (by kernel_rfl) (fun _ _ _ h => h) (Or.inl ⟨by rfl, ?_⟩) hHeld ?_
    · intro w hSw
      clear hSw
      try dsimp only [pO15]
      go_simp
      first | omega | (rw [if_neg (by omega)])
    try simp only [pO15, Act.put, List.setIfInBounds_toArray, List.set_cons_zero, List.set_cons_succ]
    refine wpAnyH_take (i := 17) (oi := pO17) (v := .string (hs ++ ⟨#[x]⟩ ++ ⟨(List.replicate Z 0).toArray⟩ ++ next)) rfl (by kernel_rfl) (by kernel_rfl) (by kernel_rfl) (fun _ _ _ h => h) (Or.inl ⟨by rfl, ?_⟩) hHeld ?_
    · intro w hSw
      clear hSw
      try dsimp only [pO17]
      go_simp
      first | omega | (rw [if_neg (by omega)])
    try simp only [pO17, Act.put, List.setIfInBounds_toArray, List.set_cons_zero, List.set_cons_succ]
    refine wpAnyH_take (i := 18) (oi := pO18) (v := .string (hs ++ ⟨#[x]⟩ ++ ⟨(List.replicate Z 0).toArray⟩ ++ next ++ ⟨#[0]⟩)) rfl (by kernel_rfl) (by kernel_rfl) (by kernel_rfl) (fun _ _ _ h => h) (Or.inl ⟨by rfl, ?_⟩) hHeld ?_
    · intro w hSw
      clear hSw
      try dsimp only [pO18]
      go_simp
      first | omega | (rw [if_neg (by omega)])
    try simp only [pO18, Act.put, List.setIfInBounds_toArray, List.set_cons_zero, List.set_cons_succ]
    refine wpAnyH_ready (rs := [22]) (by as_aux_lemma => kernel_rfl) (by simp) ?_
    refine AllReadyH.cons (o := pO22) rfl (fun K hK => ?_) AllReadyH.nil
    dsimp only [pO22]
    go_simp
    refine (HLY.out _ (HR1.out.below hv13 (Nat.le_refl _))).mono ?_
    rintro e w9 ⟨rfl, hb⟩
    obtain ⟨s9, z9, hs9⟩ := layR_form ahd L f add
    have HS9 := Lib.hid hs9
    rw [hs9]
    clear hs9
    go_wp2_with fail
    refine hK.out _ _ hb (fun hHeld => ?_)
    have HBE := Lib.hid (HB1.out.trans ((hv13.trans (hb.mono hv13.size)).mono HB1.out.size))
    clear hK K hb
    try simp only [Act.put, List.setIfInBounds_toArray, List.set_cons_zero, List.set_cons_succ]
    refine wpAnyH_take (i := 23) (oi := pO23) (v := ?_) rfl (by kernel_rfl) (by kernel_rfl) (by kernel_rfl) (fun _ _ _ h => h) (Or.inl ⟨by rfl, ?_⟩) hHeld ?_
    rotate_left
    · intro w hSw
      clear hSw
      try dsimp only [pO23]
      go_simp
      try with_reducible rfl
    try simp only [pO23, Act.put, List.setIfInBounds_toArray, List.set_cons_zero, List.set_cons_succ]
    refine wpAnyH_take (i := 24) (oi := pO24) (v := ?_) rfl (by kernel_rfl) (by kernel_rfl) (by kernel_rfl) (fun _ _ _ h => h) (Or.inl ⟨by rfl, ?_⟩) hHeld ?_
    rotate_left
    · intro w hSw
      clear hSw
      try dsimp only [pO24]
      go_simp
      try with_reducible rfl
    try simp only [pO24, Act.put, List.setIfInBounds_toArray, List.set_cons_zero, List.set_cons_succ]
    refine wpAnyH_take (i := 25) (oi := pO25) (v := ?_) rfl (by kernel_rfl) (by kernel_rfl) (by kernel_rfl) (fun _ _ _ h => h) (Or.inl ⟨by rfl, ?_⟩) hHeld ?_
    rotate_left
    · intro w hSw
      clear hSw
      try dsimp only [pO25]
      go_simp
      try with_reducible rfl
    try simp only [pO25, Act.put, List.setIfInBounds_toArray, List.set_cons_zero, List.set_cons_succ]
    refine wpAnyH_take (i := 26) (oi := pO26) (v := ?_) rfl (by kernel_rfl) (by kernel_rfl) (by kernel_rfl) (fun _ _ _ h => h) (Or.inl ⟨by rfl, ?_⟩) hHeld ?_
    rotate_left
    · intro w hSw
      clear hSw
      try dsimp only [pO26]
      go_simp
      try with_reducible rfl
    try simp only [pO26, Act.put, List.setIfInBounds_toArray, List.set_cons_zero, List.set_cons_succ]
    refine wpAnyH_done (by as_aux_lemma => kernel_rfl) ?_ _
    clear hHeld
    go_wp2_with fail
    go_ret2
    exact ⟨ret_val HS9.out.symm, HBE.out⟩
  refine AllReadyH.cons (o := pO8) rfl (fun K hK => ?_) AllReadyH.nil
  refine wp_byte1 (by rfl) _ rfl x _ rfl rfl ?_
  intro u14 HC hb
  refine hK.out _ _ (hHeld.trans (hb.mono hHeld.size)) (fun hHeld => ?_)
  clear hK K
  have hv14 : Below V.heap.size V u14 := hv11.trans (hb.mono hv11.size)
  refine wpAnyH_more (S' := fun w' => Below u14.heap.size u14 w') (fun _ h => hHeld.trans (h.mono hHeld.size)) _ _ _ _ ?_
  clear hHeld hb
  have hHeld : Below u14.heap.size u14 u14 := Below.refl _ _
  try simp only [Act.put, List.setIfInBounds_toArray, List.set_cons_zero, List.set_cons_succ]
  refine wpAnyH_take (i := 9) (oi := pO9) (v := ?_) rfl (by kernel_rfl) (by kernel_rfl) (by kernel_rfl) (fun _ _ _ h => h) (Or.inl ⟨by rfl, ?_⟩) hHeld ?_
  rotate_left
  · intro w hSw
    have hc := conv_at (HC.below hSw HC.lt) (n := 1) (l := [x]) rfl
    clear hSw
    try dsimp only [pO9]
    go_simp
    try rw [hc]
    try with_reducible rfl
  try simp only [pO9, Act.put, List.setIfInBounds_toArray, List.set_cons_zero, List.set_cons_succ]
  clear HC
  refine wpAnyH_ready (rs := [1]) (by as_aux_lemma => kernel_rfl) (by simp) ?_
  refine AllReadyH.cons (o := pO1) rfl (fun K hK => ?_) AllReadyH.nil
  dsimp only [pO1]
  go_simp
  refine (HHE.out _).mono ?_
  rintro e u15 ⟨rfl, hb⟩
  go_wp2_with fail
  refine hK.out _ _ (hHeld.trans (hb.mono hHeld.size)) (fun hHeld => ?_)
  clear hK K
  have hv15 : Below V.heap.size V u15 := hv14.trans (hb.mono hv14.size)
  refine wpAnyH_more (S' := fun w' => Below u15.heap.size u15 w') (fun _ h => hHeld.trans (h.mono hHeld.size)) _ _ _ _ ?_
  clear hHeld hb
  have hHeld : Below u15.heap.size u15 u15 := Below.refl _ _
  try simp only [Act.put, List.setIfInBounds_toArray, List.set_cons_zero, List.set_cons_succ]
  refine wpAnyH_take (i := 10) (oi := pO10) (v := .string (hs ++ ⟨#[x]⟩)) rfl (by kernel_rfl) (by kernel_rfl) (by kernel_rfl) (fun _ _ _ h => h) (Or.inl ⟨by rfl, ?_⟩) hHeld ?_
  · intro w hSw
    clear hSw
    try dsimp only [pO10]
    go_simp
    first | omega | (rw [if_neg (by omega)])
  try simp only [pO10, Act.put, List.setIfInBounds_toArray, List.set_cons_zero, List.set_cons_succ]
  refine wpAnyH_take (i := 15) (oi := pO15) (v := .string (hs ++ ⟨#[x]⟩ ++ ⟨(List.replicate Z 0).toArray⟩)) rfl (by kernel_rfl) (by kernel_rfl) (by kernel_rfl) (fun _ _ _ h => h) (Or.inl ⟨by rfl, ?_⟩) hHeld ?_
  · intro w hSw
    clear hSw
    try dsimp only [pO15]
    go_simp
    first | omega | (rw [if_neg (by omega)])
  try simp only [pO15, Act.put, List.setIfInBounds_toArray, List.set_cons_zero, List.set_cons_succ]
  refine wpAnyH_take (i := 17) (oi := pO17) (v := .string (hs ++ ⟨#[x]⟩ ++ ⟨(List.replicate Z 0).toArray⟩ ++ next)) rfl (by kernel_rfl) (by kernel_rfl) (by kernel_rfl) (fun _ _ _ h => h) (Or.inl ⟨by rfl, ?_⟩) hHeld ?_
  · intro w hSw
    clear hSw
    try dsimp only [pO17]
    go_simp
    first | omega | (rw [if_neg (by omega)])
  try simp only [pO17, Act.put, List.setIfInBounds_toArray, List.set_cons_zero, List.set_cons_succ]
  refine wpAnyH_take (i := 18) (oi := pO18) (v := .string (hs ++ ⟨#[x]⟩ ++ ⟨(List.replicate Z 0).toArray⟩ ++ next ++ ⟨#[0]⟩)) rfl (by kernel_rfl) (by kernel_rfl) (by kernel_rfl) (fun _ _ _ h => h) (Or.inl ⟨by rfl, ?_⟩) hHeld ?_
  · intro w hSw
    clear hSw
    try dsimp only [pO18]
    go_simp
    first | omega | (rw [if_neg (by omega)])
  try simp only [pO18, Act.put, List.setIfInBounds_toArray, List.set_cons_zero, List.set_cons_succ]
  refine wpAnyH_ready (rs := [22]) (by as_aux_lemma => kernel_rfl) (by simp) ?_
  refine AllReadyH.cons (o := pO22) rfl (fun K hK => ?_) AllReadyH.nil
  dsimp only [pO22]
  go_simp
  refine (HLY.out _ (HR1.out.below hv15 (Nat.le_refl _))).mono ?_
  rintro e w9 ⟨rfl, hb⟩
  obtain ⟨s9, z9, hs9⟩ := layR_form ahd L f add
  have HS9 := Lib.hid hs9
  rw [hs9]
  clear hs9
  go_wp2_with fail
  refine hK.out _ _ hb (fun hHeld => ?_)
  have HBE := Lib.hid (HB1.out.trans ((hv15.trans (hb.mono hv15.size)).mono HB1.out.size))
  clear hK K hb
  try simp only [Act.put, List.setIfInBounds_toArray, List.set_cons_zero, List.set_cons_succ]
  refine wpAnyH_take (i := 23) (oi := pO23) (v := ?_) rfl (by kernel_rfl) (by kernel_rfl) (by kernel_rfl) (fun _ _ _ h => h) (Or.inl ⟨by rfl, ?_⟩) hHeld ?_
  rotate_left
  · intro w hSw
    clear hSw
    try dsimp only [pO23]
    go_simp
    try with_reducible rfl
  try simp only [pO23, Act.put, List.setIfInBounds_toArray, List.set_cons_zero, List.set_cons_succ]
  refine wpAnyH_take (i := 24) (oi := pO24) (v := ?_) rfl (by kernel_rfl) (by kernel_rfl) (by kernel_rfl) (fun _ _ _ h => h) (Or.inl ⟨by rfl, ?_⟩) hHeld ?_
  rotate_left
  · intro w hSw
    clear hSw
    try dsimp only [pO24]
    go_simp
    try with_reducible rfl
  try simp only [pO24, Act.put, List.setIfInBounds_toArray, List.set_cons_zero, List.set_cons_succ]
  refine wpAnyH_take (i := 25) (oi := pO25) (v := ?_) rfl (by kernel_rfl) (by kernel_rfl) (by kernel_rfl) (fun _ _ _ h => h) (Or.inl ⟨by rfl, ?_⟩) hHeld ?_
  rotate_left
  · intro w hSw
    clear hSw
    try dsimp only [pO25]
    go_simp
    try with_reducible rfl
  try simp only [pO25, Act.put, List.setIfInBounds_toArray, List.set_cons_zero, List.set_cons_succ]
  refine wpAnyH_take (i := 26) (oi := pO26) (v := ?_) rfl (by kernel_rfl) (by kernel_rfl) (by kernel_rfl) (fun _ _ _ h => h) (Or.inl ⟨by rfl, ?_⟩) hHeld ?_
  rotate_left
  · intro w hSw
    clear hSw
    try dsimp only [pO26]
    go_simp
    try with_reducible rfl
  try simp only [pO26, Act.put, List.setIfInBounds_toArray, List.set_cons_zero, List.set_cons_succ]
  refine wpAnyH_done (by as_aux_lemma => kernel_rfl) ?_ _
  clear hHeld
  go_wp2_with fail
  go_ret2
  exact ⟨ret_val HS9.out.symm, HBE.out⟩
end Go.Proofs.Ytocbacpbckejdaa
