/-
  LabelsKnown: the law answers true. Conditions: none.
-/
import Derived.Test.YtngehobekmijbaaLabF
set_option linter.unusedVariables false
set_option linter.unusedSimpArgs false
namespace Go.Proofs.Ytngehobekmijbaa
open Go.RowKit Go.MapKept
open Go.Maps (Keyed)
open Go.ChangeShapes Go.WideShapes Go.ChangeAt

theorem noKey_ok : noKey.Ok := ⟨by decide, by decide, by decide, by decide, by decide⟩
theorem noKey_may : kmay noKey = false := by
  have h3 : ¬ PrefOk 0 0 ByteArray.empty 0 := fun h => h.1 rfl
  show (_ && decide (PrefOk 0 0 ByteArray.empty 0)) = false
  rw [decide_eq_false h3, Bool.and_false]
def vKey : LK := ⟨⟨#[86]⟩, 1, 0, ⟨#[10, 0, 0, 0]⟩, 8⟩
theorem vKey_ok : vKey.Ok := ⟨by decide, by decide, by decide, by decide, by decide⟩
theorem vKey_may : kmay vKey = false := by
  have h1 : nameB ⟨#[86]⟩ (by decide) = false := by decide +kernel
  show ((if h : 0 < (ByteArray.mk #[86]).size then nameB ⟨#[86]⟩ h else true) && _) = false
  rw [dif_pos (by decide), h1, Bool.false_and]

set_option maxRecDepth 100000 in
set_option maxHeartbeats 4000000 in
theorem labelsKnown_walk (w : World) : Calls Try.prog 6 #[] w fun e w' => e = .returned (.bool true) ∧ Below w.heap.size w w' := by
  have K1110 : kk 11 ≠ kk 10 := fun h => absurd (kk_inj h) (by decide)
  have K1112 : kk 11 ≠ kk 12 := fun h => absurd (kk_inj h) (by decide)
  have K1011 : kk 10 ≠ kk 11 := fun h => absurd (kk_inj h) (by decide)
  have KA := Lib.hid K1110
  have KB := Lib.hid K1112
  have KC := Lib.hid K1011
  clear K1110 K1112 K1011
  go_enter Try.func6, Try.ntmps6
  go_wp2_with fail
  refine (new_ok 16 17 _ (by omega) (by omega) (by omega)).mono ?_
  rintro e w1 ⟨rfl, hL, hb, hz⟩
  have HL1 := Lib.hid hL
  have HB1 := Lib.hid hb
  clear hL hb hz
  go_wp2_with fail
  refine (key_any 10 _).mono ?_
  rintro e w2 ⟨rfl, hb⟩
  have HL2 := Lib.hid (HL1.out.below hb (Nat.le_refl _))
  have HB2 := Lib.hid (HB1.out.trans (hb.mono HB1.out.size))
  clear hb HL1 HB1
  go_wp2_with fail
  refine (take_at (n := 16) HL2.out (kk_ok 10) (kk_may 10) (by simp) (by omega) (by omega) (fun q h1 h2 => absurd h1 (by omega)) (by simp)).mono ?_
  rintro e w3 ⟨rfl, hl, hg⟩
  have HL3 := Lib.hid hl
  have HB3 := Lib.hid (hg.below2 HB2.out (by omega) (by omega))
  clear hl hg HL2 HB2
  go_wp2_with fail
  refine (key_any 11 _).mono ?_
  rintro e w4 ⟨rfl, hb⟩
  have HL4 := Lib.hid (HL3.out.below hb (Nat.le_refl _))
  have HB4 := Lib.hid (HB3.out.trans (hb.mono HB3.out.size))
  clear hb HL3 HB3
  go_wp2_with fail
  refine (take_at (n := 17) HL4.out (kk_ok 11) (kk_may 11) (by simpa using KC.out) (by omega) (by omega) (fun q h1 h2 => ⟨(kk 10, 16), by simp, by show 16 = q; omega⟩) (by simp)).mono ?_
  rintro e w5 ⟨rfl, hl, hg⟩
  have HL5 := Lib.hid hl
  have HB5 := Lib.hid (hg.below2 HB4.out (by omega) (by omega))
  clear hl hg HL4 HB4
  go_wp2_with fail
  refine (key_any 10 _).mono ?_
  rintro e w6 ⟨rfl, hb⟩
  have HL6 := Lib.hid (HL5.out.below hb (Nat.le_refl _))
  have HB6 := Lib.hid (HB5.out.trans (hb.mono HB5.out.size))
  clear hb HL5 HB5
  go_wp2_with fail
  refine (give_some _ _ _ _ _ _ 0 _ (kk 10) 16 HL6.out (kk_ok 10) rfl).mono ?_
  rintro e w7 ⟨rfl, hl, hg⟩
  have HL7 := Lib.hid hl
  have HB7 := Lib.hid (hg.below2 HB6.out (by omega) (by omega))
  clear hl hg HL6 HB6
  go_wp2_with fail
  refine (key_any 10 _).mono ?_
  rintro e w8 ⟨rfl, hb⟩
  have HL8 := Lib.hid (HL7.out.below hb (Nat.le_refl _))
  have HB8 := Lib.hid (HB7.out.trans (hb.mono HB7.out.size))
  clear hb HL7 HB7
  go_wp2_with fail
  refine (give_none _ _ _ _ _ _ _ (kk 10) HL8.out (kk_ok 10) (by simpa using KA.out)).mono ?_
  rintro e w9 ⟨rfl, hb⟩
  have HL9 := Lib.hid (HL8.out.below hb (Nat.le_refl _))
  have HB9 := Lib.hid (HB8.out.trans (hb.mono HB8.out.size))
  clear hb HL8 HB8
  go_wp2_with fail
  refine (key_any 12 _).mono ?_
  rintro e w10 ⟨rfl, hb⟩
  have HL10 := Lib.hid (HL9.out.below hb (Nat.le_refl _))
  have HB10 := Lib.hid (HB9.out.trans (hb.mono HB9.out.size))
  clear hb HL9 HB9
  go_wp2_with fail
  refine (take_at (n := 16) HL10.out (kk_ok 12) (kk_may 12) (by simpa using KB.out) (by omega) (by omega) (fun q h1 h2 => absurd h1 (by omega)) (by simp)).mono ?_
  rintro e w11 ⟨rfl, hl, hg⟩
  have HL11 := Lib.hid hl
  have HB11 := Lib.hid (hg.below2 HB10.out (by omega) (by omega))
  clear hl hg HL10 HB10
  go_wp2_with fail
  refine (key_any 12 _).mono ?_
  rintro e w12 ⟨rfl, hb⟩
  have HL12 := Lib.hid (HL11.out.below hb (Nat.le_refl _))
  have HB12 := Lib.hid (HB11.out.trans (hb.mono HB11.out.size))
  clear hb HL11 HB11
  go_wp2_with fail
  refine (of_some _ _ _ _ _ _ 1 _ (kk 12) 16 HL12.out (kk_ok 12) rfl).mono ?_
  rintro e w13 ⟨rfl, hb⟩
  have HL13 := Lib.hid (HL12.out.below hb (Nat.le_refl _))
  have HB13 := Lib.hid (HB12.out.trans (hb.mono HB12.out.size))
  clear hb HL12 HB12
  go_wp2_with fail
  refine (lkey_some _ _ _ _ _ _ 1 _ (kk 12) 16 HL13.out rfl).mono ?_
  rintro e w14 ⟨rfl, hb⟩
  have HL14 := Lib.hid (HL13.out.below hb (Nat.le_refl _))
  have HB14 := Lib.hid (HB13.out.trans (hb.mono HB13.out.size))
  clear hb HL13 HB13
  rw [show (kk 12).v = .agg #[.string ⟨#[118]⟩, .int .i64 1, .int .u64 0, .string ⟨#[12, 0, 0, 0]⟩, .int .i64 8] from rfl]
  have HL14a := Lib.hid (HL14.out.below (Below.alloc (Below.refl w14.heap.size w14) (Nat.le_refl _) (.cells #[.string ⟨#[118]⟩, .int .i64 1, .int .u64 0, .string ⟨#[12, 0, 0, 0]⟩, .int .i64 8] 34)) (Nat.le_refl _))
  have HB14a := Lib.hid (HB14.out.alloc HB14.out.size (.cells #[.string ⟨#[118]⟩, .int .i64 1, .int .u64 0, .string ⟨#[12, 0, 0, 0]⟩, .int .i64 8] 34))
  have HK14a := Lib.hid (CellsAt.new w14 #[.string ⟨#[118]⟩, .int .i64 1, .int .u64 0, .string ⟨#[12, 0, 0, 0]⟩, .int .i64 8] 34)
  clear HL14 HB14
  go_wp2_with fail
  refine (lkey_none _ _ _ _ _ _ _ 18 HL14a.out (by omega) (by simp)).mono ?_
  rintro e w15 ⟨rfl, hb⟩
  have HL15 := Lib.hid (HL14a.out.below hb (Nat.le_refl _))
  have HB15 := Lib.hid (HB14a.out.trans (hb.mono HB14a.out.size))
  have HK15 := Lib.hid (HK14a.out.below hb HK14a.out.lt)
  clear hb HL14a HB14a HK14a
  rw [show noKey.v = .agg #[.string ⟨#[]⟩, .int .i64 0, .int .u64 0, .string ⟨#[]⟩, .int .i64 0] from rfl]
  have HL15a := Lib.hid (HL15.out.below (Below.alloc (Below.refl w15.heap.size w15) (Nat.le_refl _) (.cells #[.string ⟨#[]⟩, .int .i64 0, .int .u64 0, .string ⟨#[]⟩, .int .i64 0] 34)) (Nat.le_refl _))
  have HB15a := Lib.hid (HB15.out.alloc HB15.out.size (.cells #[.string ⟨#[]⟩, .int .i64 0, .int .u64 0, .string ⟨#[]⟩, .int .i64 0] 34))
  have HK15a := Lib.hid (HK15.out.alloc (.cells #[.string ⟨#[]⟩, .int .i64 0, .int .u64 0, .string ⟨#[]⟩, .int .i64 0] 34))
  clear HL15 HB15 HK15
  go_wp2_with fail
  refine (new_bad 15 20 _ (by omega)).mono ?_
  rintro e wz ⟨rfl, rfl⟩
  go_wp2_with fail
  refine (new_bad 17 16 _ (by omega)).mono ?_
  rintro e wz ⟨rfl, rfl⟩
  go_wp2_with fail
  refine (new_bad 16 1048576 _ (by omega)).mono ?_
  rintro e wz ⟨rfl, rfl⟩
  go_wp2_with fail
  refine (take_bad _ _ _ _ _ _ _ noKey HL15a.out noKey_ok noKey_may).mono ?_
  rintro e w16 ⟨rfl, hb⟩
  have HL16 := Lib.hid (HL15a.out.below hb (Nat.le_refl _))
  have HB16 := Lib.hid (HB15a.out.trans (hb.mono HB15a.out.size))
  have HK16 := Lib.hid (HK15a.out.below hb HK15a.out.lt)
  clear hb HL15a HB15a HK15a
  go_wp2_with fail
  refine (key_any 10 _).mono ?_
  rintro e w17 ⟨rfl, hb⟩
  have HL17 := Lib.hid (HL16.out.below hb (Nat.le_refl _))
  have HB17 := Lib.hid (HB16.out.trans (hb.mono HB16.out.size))
  have HK17 := Lib.hid (HK16.out.below hb HK16.out.lt)
  clear hb HL16 HB16 HK16
  rw [show (kk 10).v = .agg #[.string ⟨#[118]⟩, .int .i64 1, .int .u64 0, .string ⟨#[10, 0, 0, 0]⟩, .int .i64 8] from rfl]
  have hfld : (Instr.field 34 (.agg #[.string ⟨#[118]⟩, .int .i64 1, .int .u64 0, .string ⟨#[10, 0, 0, 0]⟩, .int .i64 8]) 1).run Try.prog w17 = .ok (.agg #[.int .i64 1, .int .u64 0, .string ⟨#[10, 0, 0, 0]⟩, .int .i64 8]) w17 := by kernel_rfl
  go_wp2_with fail
  clear hfld
  refine (take_bad _ _ _ _ _ _ _ vKey HL17.out vKey_ok vKey_may).mono ?_
  rintro e w18 ⟨rfl, hb⟩
  have HL18 := Lib.hid (HL17.out.below hb (Nat.le_refl _))
  have HB18 := Lib.hid (HB17.out.trans (hb.mono HB17.out.size))
  have HK18 := Lib.hid (HK17.out.below hb HK17.out.lt)
  clear hb HL17 HB17 HK17
  have HL18a := Lib.hid (HL18.out.below (Below.alloc (Below.refl w18.heap.size w18) (Nat.le_refl _) (.cells #[.int .u32 0, .int .u32 0, .map none, .map none] 60)) (Nat.le_refl _))
  have HB18a := Lib.hid (HB18.out.alloc HB18.out.size (.cells #[.int .u32 0, .int .u32 0, .map none, .map none] 60))
  have HK18a := Lib.hid (HK18.out.alloc (.cells #[.int .u32 0, .int .u32 0, .map none, .map none] 60))
  have HE18a := Lib.hid (CellsAt.new w18 #[.int .u32 0, .int .u32 0, .map none, .map none] 60)
  clear HL18 HB18 HK18
  go_wp2_with fail
  refine (key_any 10 _).mono ?_
  rintro e w19 ⟨rfl, hb⟩
  have HL19 := Lib.hid (HL18a.out.below hb (Nat.le_refl _))
  have HB19 := Lib.hid (HB18a.out.trans (hb.mono HB18a.out.size))
  have HK19 := Lib.hid (HK18a.out.below hb HK18a.out.lt)
  have HE19 := Lib.hid (HE18a.out.below hb HE18a.out.lt)
  clear hb HL18a HB18a HK18a HE18a
  go_wp2_with fail
  refine (notake_any (.pointer none) (kk 10) _ (fun o => NoneP.nil _)).mono ?_
  rintro e w20 ⟨rfl, hb⟩
  have HL20 := Lib.hid (HL19.out.below hb (Nat.le_refl _))
  have HB20 := Lib.hid (HB19.out.trans (hb.mono HB19.out.size))
  have HK20 := Lib.hid (HK19.out.below hb HK19.out.lt)
  have HE20 := Lib.hid (HE19.out.below hb HE19.out.lt)
  clear hb HL19 HB19 HK19 HE19
  go_wp2_with fail
  refine (key_any 10 _).mono ?_
  rintro e w21 ⟨rfl, hb⟩
  have HL21 := Lib.hid (HL20.out.below hb (Nat.le_refl _))
  have HB21 := Lib.hid (HB20.out.trans (hb.mono HB20.out.size))
  have HK21 := Lib.hid (HK20.out.below hb HK20.out.lt)
  have HE21 := Lib.hid (HE20.out.below hb HE20.out.lt)
  clear hb HL20 HB20 HK20 HE20
  go_wp2_with fail
  refine (notake_any (.pointer (some ⟨w18.heap.size, 0, none⟩)) (kk 10) _ (fun o => NoneP.empty _ _ (HE21.out.alloc o).c4.2.2.1)).mono ?_
  rintro e w22 ⟨rfl, hb⟩
  have HL22 := Lib.hid (HL21.out.below hb (Nat.le_refl _))
  have HB22 := Lib.hid (HB21.out.trans (hb.mono HB21.out.size))
  have HK22 := Lib.hid (HK21.out.below hb HK21.out.lt)
  have HE22 := Lib.hid (HE21.out.below hb HE21.out.lt)
  clear hb HL21 HB21 HK21 HE21
  go_wp2_with fail
  refine (key_any 10 _).mono ?_
  rintro e w23 ⟨rfl, hb⟩
  have HL23 := Lib.hid (HL22.out.below hb (Nat.le_refl _))
  have HB23 := Lib.hid (HB22.out.trans (hb.mono HB22.out.size))
  have HK23 := Lib.hid (HK22.out.below hb HK22.out.lt)
  have HE23 := Lib.hid (HE22.out.below hb HE22.out.lt)
  clear hb HL22 HB22 HK22 HE22
  go_wp2_with fail
  refine (noof_any (.pointer none) (kk 10) _ (fun o => NoneP.nil _)).mono ?_
  rintro e w24 ⟨rfl, hb⟩
  have HL24 := Lib.hid (HL23.out.below hb (Nat.le_refl _))
  have HB24 := Lib.hid (HB23.out.trans (hb.mono HB23.out.size))
  have HK24 := Lib.hid (HK23.out.below hb HK23.out.lt)
  have HE24 := Lib.hid (HE23.out.below hb HE23.out.lt)
  clear hb HL23 HB23 HK23 HE23
  go_wp2_with fail
  refine (nokey_any (.pointer (some ⟨w18.heap.size, 0, none⟩)) 16 _ (fun o => NoneP.empty _ _ (HE24.out.alloc o).c4.2.2.1)).mono ?_
  rintro e w25 ⟨rfl, hb⟩
  have HL25 := Lib.hid (HL24.out.below hb (Nat.le_refl _))
  have HB25 := Lib.hid (HB24.out.trans (hb.mono HB24.out.size))
  have HK25 := Lib.hid (HK24.out.below hb HK24.out.lt)
  have HE25 := Lib.hid (HE24.out.below hb HE24.out.lt)
  clear hb HL24 HB24 HK24 HE24
  rw [show noKey.v = .agg #[.string ⟨#[]⟩, .int .i64 0, .int .u64 0, .string ⟨#[]⟩, .int .i64 0] from rfl]
  have HL25a := Lib.hid (HL25.out.below (Below.alloc (Below.refl w25.heap.size w25) (Nat.le_refl _) (.cells #[.string ⟨#[]⟩, .int .i64 0, .int .u64 0, .string ⟨#[]⟩, .int .i64 0] 34)) (Nat.le_refl _))
  have HB25a := Lib.hid (HB25.out.alloc HB25.out.size (.cells #[.string ⟨#[]⟩, .int .i64 0, .int .u64 0, .string ⟨#[]⟩, .int .i64 0] 34))
  have HK25a := Lib.hid (HK25.out.alloc (.cells #[.string ⟨#[]⟩, .int .i64 0, .int .u64 0, .string ⟨#[]⟩, .int .i64 0] 34))
  have HE25a := Lib.hid (HE25.out.alloc (.cells #[.string ⟨#[]⟩, .int .i64 0, .int .u64 0, .string ⟨#[]⟩, .int .i64 0] 34))
  clear HL25 HB25 HK25 HE25
  go_wp2_with fail
  as_aux_lemma =>
    refine wp_region_held_drew (S := fun w' => CellsAt w' (w14.heap.size) #[.string ⟨#[118]⟩, .int .i64 1, .int .u64 0, .string ⟨#[12, 0, 0, 0]⟩, .int .i64 8] 34 ∧ CellsAt w' (w18.heap.size) #[.int .u32 0, .int .u32 0, .map none, .map none] 60 ∧ Hid (Below w.heap.size w w')) (by as_aux_lemma => kernel_rfl) (And.intro (HK25a.out.drew 1) (And.intro (HE25a.out.drew 1) (below_drewN HB25a.out 1))) (fun hHeld => ?_)
    refine wpAnyH_take (i := 0) (oi := { dst := some 123, op := Op.move (Operand.const (Value.bool true)), type := 4, pos := "outright.go:123", after := #[], guard := none }) (v := ?_) rfl (by as_aux_lemma => kernel_rfl) (by as_aux_lemma => kernel_rfl) (by as_aux_lemma => kernel_rfl) (fun _ _ _ h => h) (Or.inl ⟨by rfl, ?_⟩) hHeld ?_
    rotate_left
    · intro w hSw
      clear hSw
      go_simp
      try with_reducible rfl
    try simp only [Act.put, List.setIfInBounds_toArray, List.set_cons_zero, List.set_cons_succ]
    refine wpAnyH_ready (rs := [1]) (by as_aux_lemma => kernel_rfl) (by simp) ?_
    refine AllReadyH.cons (o := { dst := some 124, op := Op.call { callee := Callee.value (Operand.func 7), args := #[], argTypes := #[] }, type := 4, pos := "outright.go:123", after := #[{ on := 0, ground := Ground.chain }, { on := 0, ground := Ground.guard }], guard := some (0, true) }) rfl (fun K hK => ?_) AllReadyH.nil
    go_simp
    go_at_call 7
    refine (works_any _).mono ?_
    rintro e wn ⟨rfl, hb⟩
    go_wp2_with fail
    refine hK.out _ _ (And.intro (hHeld.1.below hb hHeld.1.lt) (And.intro (hHeld.2.1.below hb hHeld.2.1.lt) (hHeld.2.2.out.trans (hb.mono hHeld.2.2.out.size)))) (fun hHeld => ?_)
    clear hK K
    try simp only [Act.put, List.setIfInBounds_toArray, List.set_cons_zero, List.set_cons_succ]
    refine wpAnyH_take (i := 2) (oi := { dst := some 125, op := Op.pick (Operand.tmp 123) (Operand.tmp 124) (Operand.const (Value.bool false)), type := 4, pos := "outright.go:123", after := #[{ on := 0, ground := Ground.data }, { on := 1, ground := Ground.data }], guard := none }) (v := ?_) rfl (by as_aux_lemma => kernel_rfl) (by as_aux_lemma => kernel_rfl) (by as_aux_lemma => kernel_rfl) (fun _ _ _ h => h) (Or.inl ⟨by rfl, ?_⟩) hHeld ?_
    rotate_left
    · intro w hSw
      clear hSw
      go_simp
      try with_reducible rfl
    try simp only [Act.put, List.setIfInBounds_toArray, List.set_cons_zero, List.set_cons_succ]
    refine wpAnyH_take (i := 3) (oi := { dst := some 126, op := Op.move (Operand.tmp 125), type := 4, pos := "outright.go:123", after := #[{ on := 2, ground := Ground.data }, { on := 1, ground := Ground.chain }], guard := none }) (v := ?_) rfl (by as_aux_lemma => kernel_rfl) (by as_aux_lemma => kernel_rfl) (by as_aux_lemma => kernel_rfl) (fun _ _ _ h => h) (Or.inl ⟨by rfl, ?_⟩) hHeld ?_
    rotate_left
    · intro w hSw
      clear hSw
      go_simp
      try with_reducible rfl
    try simp only [Act.put, List.setIfInBounds_toArray, List.set_cons_zero, List.set_cons_succ]
    refine wpAnyH_take (i := 4) (oi := { dst := some 127, op := Op.move (Operand.tmp 4), type := 24, pos := "outright.go:123", after := #[{ on := 3, ground := Ground.guard }], guard := some (3, true) }) (v := ?_) rfl (by as_aux_lemma => kernel_rfl) (by as_aux_lemma => kernel_rfl) (by as_aux_lemma => kernel_rfl) (fun _ _ _ h => h) (Or.inl ⟨by rfl, ?_⟩) hHeld ?_
    rotate_left
    · intro w hSw
      clear hSw
      go_simp
      try with_reducible rfl
    try simp only [Act.put, List.setIfInBounds_toArray, List.set_cons_zero, List.set_cons_succ]
    refine wpAnyH_take (i := 5) (oi := { dst := some 128, op := Op.binOp BinOp.eql 24 (Operand.tmp 127) (Operand.const (Value.int IntKind.i64 0)) 24, type := 4, pos := "outright.go:123", after := #[{ on := 4, ground := Ground.data }, { on := 3, ground := Ground.guard }], guard := some (3, true) }) (v := ?_) rfl (by as_aux_lemma => kernel_rfl) (by as_aux_lemma => kernel_rfl) (by as_aux_lemma => kernel_rfl) (fun _ _ _ h => h) (Or.inl ⟨by rfl, ?_⟩) hHeld ?_
    rotate_left
    · intro w hSw
      clear hSw
      go_simp
      try with_reducible rfl
    try simp only [Act.put, List.setIfInBounds_toArray, List.set_cons_zero, List.set_cons_succ]
    refine wpAnyH_take (i := 6) (oi := { dst := some 129, op := Op.pick (Operand.tmp 126) (Operand.tmp 128) (Operand.const (Value.bool false)), type := 4, pos := "outright.go:123", after := #[{ on := 3, ground := Ground.data }, { on := 5, ground := Ground.data }], guard := none }) (v := ?_) rfl (by as_aux_lemma => kernel_rfl) (by as_aux_lemma => kernel_rfl) (by as_aux_lemma => kernel_rfl) (fun _ _ _ h => h) (Or.inl ⟨by rfl, ?_⟩) hHeld ?_
    rotate_left
    · intro w hSw
      clear hSw
      go_simp
      try with_reducible rfl
    try simp only [Act.put, List.setIfInBounds_toArray, List.set_cons_zero, List.set_cons_succ]
    refine wpAnyH_take (i := 7) (oi := { dst := some 130, op := Op.move (Operand.tmp 129), type := 4, pos := "outright.go:123", after := #[{ on := 6, ground := Ground.data }, { on := 3, ground := Ground.chain }], guard := none }) (v := ?_) rfl (by as_aux_lemma => kernel_rfl) (by as_aux_lemma => kernel_rfl) (by as_aux_lemma => kernel_rfl) (fun _ _ _ h => h) (Or.inl ⟨by rfl, ?_⟩) hHeld ?_
    rotate_left
    · intro w hSw
      clear hSw
      go_simp
      try with_reducible rfl
    try simp only [Act.put, List.setIfInBounds_toArray, List.set_cons_zero, List.set_cons_succ]
    refine wpAnyH_take (i := 8) (oi := { dst := some 131, op := Op.move (Operand.tmp 3), type := 27, pos := "outright.go:123", after := #[{ on := 7, ground := Ground.guard }], guard := some (7, true) }) (v := ?_) rfl (by as_aux_lemma => kernel_rfl) (by as_aux_lemma => kernel_rfl) (by as_aux_lemma => kernel_rfl) (fun _ _ _ h => h) (Or.inl ⟨by rfl, ?_⟩) hHeld ?_
    rotate_left
    · intro w hSw
      clear hSw
      go_simp
      try with_reducible rfl
    try simp only [Act.put, List.setIfInBounds_toArray, List.set_cons_zero, List.set_cons_succ]
    refine wpAnyH_take (i := 9) (oi := { dst := some 132, op := Op.binOp BinOp.eql 27 (Operand.tmp 131) (Operand.const (Value.int IntKind.u32 16)) 27, type := 4, pos := "outright.go:123", after := #[{ on := 8, ground := Ground.data }, { on := 7, ground := Ground.guard }], guard := some (7, true) }) (v := ?_) rfl (by as_aux_lemma => kernel_rfl) (by as_aux_lemma => kernel_rfl) (by as_aux_lemma => kernel_rfl) (fun _ _ _ h => h) (Or.inl ⟨by rfl, ?_⟩) hHeld ?_
    rotate_left
    · intro w hSw
      clear hSw
      go_simp
      try with_reducible rfl
    try simp only [Act.put, List.setIfInBounds_toArray, List.set_cons_zero, List.set_cons_succ]
    refine wpAnyH_take (i := 10) (oi := { dst := some 133, op := Op.pick (Operand.tmp 130) (Operand.tmp 132) (Operand.const (Value.bool false)), type := 4, pos := "outright.go:123", after := #[{ on := 7, ground := Ground.data }, { on := 9, ground := Ground.data }], guard := none }) (v := ?_) rfl (by as_aux_lemma => kernel_rfl) (by as_aux_lemma => kernel_rfl) (by as_aux_lemma => kernel_rfl) (fun _ _ _ h => h) (Or.inl ⟨by rfl, ?_⟩) hHeld ?_
    rotate_left
    · intro w hSw
      clear hSw
      go_simp
      try with_reducible rfl
    try simp only [Act.put, List.setIfInBounds_toArray, List.set_cons_zero, List.set_cons_succ]
    refine wpAnyH_take (i := 11) (oi := { dst := some 134, op := Op.move (Operand.tmp 133), type := 4, pos := "outright.go:123", after := #[{ on := 10, ground := Ground.data }, { on := 7, ground := Ground.chain }], guard := none }) (v := ?_) rfl (by as_aux_lemma => kernel_rfl) (by as_aux_lemma => kernel_rfl) (by as_aux_lemma => kernel_rfl) (fun _ _ _ h => h) (Or.inl ⟨by rfl, ?_⟩) hHeld ?_
    rotate_left
    · intro w hSw
      clear hSw
      go_simp
      try with_reducible rfl
    try simp only [Act.put, List.setIfInBounds_toArray, List.set_cons_zero, List.set_cons_succ]
    refine wpAnyH_take (i := 12) (oi := { dst := some 135, op := Op.move (Operand.tmp 6), type := 4, pos := "outright.go:123", after := #[{ on := 11, ground := Ground.guard }], guard := some (11, true) }) (v := ?_) rfl (by as_aux_lemma => kernel_rfl) (by as_aux_lemma => kernel_rfl) (by as_aux_lemma => kernel_rfl) (fun _ _ _ h => h) (Or.inl ⟨by rfl, ?_⟩) hHeld ?_
    rotate_left
    · intro w hSw
      clear hSw
      go_simp
      try with_reducible rfl
    try simp only [Act.put, List.setIfInBounds_toArray, List.set_cons_zero, List.set_cons_succ]
    refine wpAnyH_take (i := 13) (oi := { dst := some 136, op := Op.pick (Operand.tmp 134) (Operand.tmp 135) (Operand.const (Value.bool false)), type := 4, pos := "outright.go:123", after := #[{ on := 11, ground := Ground.data }, { on := 12, ground := Ground.data }], guard := none }) (v := ?_) rfl (by as_aux_lemma => kernel_rfl) (by as_aux_lemma => kernel_rfl) (by as_aux_lemma => kernel_rfl) (fun _ _ _ h => h) (Or.inl ⟨by rfl, ?_⟩) hHeld ?_
    rotate_left
    · intro w hSw
      clear hSw
      go_simp
      try with_reducible rfl
    try simp only [Act.put, List.setIfInBounds_toArray, List.set_cons_zero, List.set_cons_succ]
    refine wpAnyH_take (i := 14) (oi := { dst := some 137, op := Op.move (Operand.tmp 136), type := 4, pos := "outright.go:123", after := #[{ on := 13, ground := Ground.data }, { on := 11, ground := Ground.chain }], guard := none }) (v := ?_) rfl (by as_aux_lemma => kernel_rfl) (by as_aux_lemma => kernel_rfl) (by as_aux_lemma => kernel_rfl) (fun _ _ _ h => h) (Or.inl ⟨by rfl, ?_⟩) hHeld ?_
    rotate_left
    · intro w hSw
      clear hSw
      go_simp
      try with_reducible rfl
    try simp only [Act.put, List.setIfInBounds_toArray, List.set_cons_zero, List.set_cons_succ]
    refine wpAnyH_take (i := 15) (oi := { dst := some 138, op := Op.move (Operand.tmp 5), type := 27, pos := "outright.go:123", after := #[{ on := 14, ground := Ground.guard }], guard := some (14, true) }) (v := ?_) rfl (by as_aux_lemma => kernel_rfl) (by as_aux_lemma => kernel_rfl) (by as_aux_lemma => kernel_rfl) (fun _ _ _ h => h) (Or.inl ⟨by rfl, ?_⟩) hHeld ?_
    rotate_left
    · intro w hSw
      clear hSw
      go_simp
      try with_reducible rfl
    try simp only [Act.put, List.setIfInBounds_toArray, List.set_cons_zero, List.set_cons_succ]
    refine wpAnyH_take (i := 16) (oi := { dst := some 139, op := Op.binOp BinOp.eql 27 (Operand.tmp 138) (Operand.const (Value.int IntKind.u32 16)) 27, type := 4, pos := "outright.go:123", after := #[{ on := 15, ground := Ground.data }, { on := 14, ground := Ground.guard }], guard := some (14, true) }) (v := ?_) rfl (by as_aux_lemma => kernel_rfl) (by as_aux_lemma => kernel_rfl) (by as_aux_lemma => kernel_rfl) (fun _ _ _ h => h) (Or.inl ⟨by rfl, ?_⟩) hHeld ?_
    rotate_left
    · intro w hSw
      clear hSw
      go_simp
      try with_reducible rfl
    try simp only [Act.put, List.setIfInBounds_toArray, List.set_cons_zero, List.set_cons_succ]
    refine wpAnyH_take (i := 17) (oi := { dst := some 140, op := Op.pick (Operand.tmp 137) (Operand.tmp 139) (Operand.const (Value.bool false)), type := 4, pos := "outright.go:123", after := #[{ on := 14, ground := Ground.data }, { on := 16, ground := Ground.data }], guard := none }) (v := ?_) rfl (by as_aux_lemma => kernel_rfl) (by as_aux_lemma => kernel_rfl) (by as_aux_lemma => kernel_rfl) (fun _ _ _ h => h) (Or.inl ⟨by rfl, ?_⟩) hHeld ?_
    rotate_left
    · intro w hSw
      clear hSw
      go_simp
      try with_reducible rfl
    try simp only [Act.put, List.setIfInBounds_toArray, List.set_cons_zero, List.set_cons_succ]
    refine wpAnyH_take (i := 18) (oi := { dst := some 141, op := Op.move (Operand.tmp 140), type := 4, pos := "outright.go:123", after := #[{ on := 17, ground := Ground.data }, { on := 14, ground := Ground.chain }], guard := none }) (v := ?_) rfl (by as_aux_lemma => kernel_rfl) (by as_aux_lemma => kernel_rfl) (by as_aux_lemma => kernel_rfl) (fun _ _ _ h => h) (Or.inl ⟨by rfl, ?_⟩) hHeld ?_
    rotate_left
    · intro w hSw
      clear hSw
      go_simp
      try with_reducible rfl
    try simp only [Act.put, List.setIfInBounds_toArray, List.set_cons_zero, List.set_cons_succ]
    refine wpAnyH_take (i := 19) (oi := { dst := some 142, op := Op.move (Operand.tmp 8), type := 4, pos := "outright.go:123", after := #[{ on := 18, ground := Ground.guard }], guard := some (18, true) }) (v := ?_) rfl (by as_aux_lemma => kernel_rfl) (by as_aux_lemma => kernel_rfl) (by as_aux_lemma => kernel_rfl) (fun _ _ _ h => h) (Or.inl ⟨by rfl, ?_⟩) hHeld ?_
    rotate_left
    · intro w hSw
      clear hSw
      go_simp
      try with_reducible rfl
    try simp only [Act.put, List.setIfInBounds_toArray, List.set_cons_zero, List.set_cons_succ]
    refine wpAnyH_take (i := 20) (oi := { dst := some 143, op := Op.pick (Operand.tmp 141) (Operand.tmp 142) (Operand.const (Value.bool false)), type := 4, pos := "outright.go:123", after := #[{ on := 18, ground := Ground.data }, { on := 19, ground := Ground.data }], guard := none }) (v := ?_) rfl (by as_aux_lemma => kernel_rfl) (by as_aux_lemma => kernel_rfl) (by as_aux_lemma => kernel_rfl) (fun _ _ _ h => h) (Or.inl ⟨by rfl, ?_⟩) hHeld ?_
    rotate_left
    · intro w hSw
      clear hSw
      go_simp
      try with_reducible rfl
    try simp only [Act.put, List.setIfInBounds_toArray, List.set_cons_zero, List.set_cons_succ]
    refine wpAnyH_take (i := 21) (oi := { dst := some 144, op := Op.move (Operand.tmp 143), type := 4, pos := "outright.go:123", after := #[{ on := 20, ground := Ground.data }, { on := 18, ground := Ground.chain }], guard := none }) (v := ?_) rfl (by as_aux_lemma => kernel_rfl) (by as_aux_lemma => kernel_rfl) (by as_aux_lemma => kernel_rfl) (fun _ _ _ h => h) (Or.inl ⟨by rfl, ?_⟩) hHeld ?_
    rotate_left
    · intro w hSw
      clear hSw
      go_simp
      try with_reducible rfl
    try simp only [Act.put, List.setIfInBounds_toArray, List.set_cons_zero, List.set_cons_succ]
    refine wpAnyH_take (i := 22) (oi := { dst := some 145, op := Op.load 34 (Operand.tmp 7), type := 34, pos := "outright.go:123", after := #[{ on := 21, ground := Ground.guard }], guard := some (21, true) }) (v := ?_) rfl (by as_aux_lemma => kernel_rfl) (by as_aux_lemma => kernel_rfl) (by as_aux_lemma => kernel_rfl) (fun _ _ _ h => h) (Or.inl ⟨by rfl, ?_⟩) hHeld ?_
    rotate_left
    · intro w hSw
      obtain ⟨q1, q2, _⟩ := hSw
      obtain ⟨k0, k1, k2, k3, k4⟩ := q1.c5
      go_simp
      try with_reducible rfl
    try simp only [Act.put, List.setIfInBounds_toArray, List.set_cons_zero, List.set_cons_succ]
    refine wpAnyH_ready (rs := [23]) (by as_aux_lemma => kernel_rfl) (by simp) ?_
    refine AllReadyH.cons (o := { dst := some 146, op := Op.call { callee := Callee.value (Operand.func 10), args := #[Operand.const (Value.int IntKind.u8 12)], argTypes := #[5] }, type := 34, pos := "outright.go:123", after := #[{ on := 21, ground := Ground.chain }, { on := 21, ground := Ground.guard }], guard := some (21, true) }) rfl (fun K hK => ?_) AllReadyH.nil
    go_simp
    go_at_call 10
    refine (key_any 12 _).mono ?_
    rintro e wn ⟨rfl, hb⟩
    rw [show (kk 12).v = .agg #[.string ⟨#[118]⟩, .int .i64 1, .int .u64 0, .string ⟨#[12, 0, 0, 0]⟩, .int .i64 8] from rfl]
    go_wp2_with fail
    refine hK.out _ _ (And.intro (hHeld.1.below hb hHeld.1.lt) (And.intro (hHeld.2.1.below hb hHeld.2.1.lt) (hHeld.2.2.out.trans (hb.mono hHeld.2.2.out.size)))) (fun hHeld => ?_)
    clear hK K
    try simp only [Act.put, List.setIfInBounds_toArray, List.set_cons_zero, List.set_cons_succ]
    refine wpAnyH_take (i := 24) (oi := { dst := some 147, op := Op.binOp BinOp.eql 34 (Operand.tmp 145) (Operand.tmp 146) 34, type := 4, pos := "outright.go:123", after := #[{ on := 22, ground := Ground.data }, { on := 23, ground := Ground.data }, { on := 21, ground := Ground.guard }], guard := some (21, true) }) (v := ?_) rfl (by as_aux_lemma => kernel_rfl) (by as_aux_lemma => kernel_rfl) (by as_aux_lemma => kernel_rfl) (fun _ _ _ h => h) (Or.inl ⟨by rfl, ?_⟩) hHeld ?_
    rotate_left
    · intro w hSw
      clear hSw
      go_simp
      try with_reducible rfl
    try simp only [Act.put, List.setIfInBounds_toArray, List.set_cons_zero, List.set_cons_succ]
    refine wpAnyH_take (i := 25) (oi := { dst := some 148, op := Op.pick (Operand.tmp 144) (Operand.tmp 147) (Operand.const (Value.bool false)), type := 4, pos := "outright.go:123", after := #[{ on := 21, ground := Ground.data }, { on := 24, ground := Ground.data }], guard := none }) (v := ?_) rfl (by as_aux_lemma => kernel_rfl) (by as_aux_lemma => kernel_rfl) (by as_aux_lemma => kernel_rfl) (fun _ _ _ h => h) (Or.inl ⟨by rfl, ?_⟩) hHeld ?_
    rotate_left
    · intro w hSw
      clear hSw
      go_simp
      try with_reducible rfl
    try simp only [Act.put, List.setIfInBounds_toArray, List.set_cons_zero, List.set_cons_succ]
    refine wpAnyH_take (i := 26) (oi := { dst := some 149, op := Op.move (Operand.tmp 148), type := 4, pos := "outright.go:123", after := #[{ on := 25, ground := Ground.data }, { on := 23, ground := Ground.chain }], guard := none }) (v := ?_) rfl (by as_aux_lemma => kernel_rfl) (by as_aux_lemma => kernel_rfl) (by as_aux_lemma => kernel_rfl) (fun _ _ _ h => h) (Or.inl ⟨by rfl, ?_⟩) hHeld ?_
    rotate_left
    · intro w hSw
      clear hSw
      go_simp
      try with_reducible rfl
    try simp only [Act.put, List.setIfInBounds_toArray, List.set_cons_zero, List.set_cons_succ]
    refine wpAnyH_take (i := 27) (oi := { dst := some 150, op := Op.move (Operand.tmp 10), type := 4, pos := "outright.go:123", after := #[{ on := 26, ground := Ground.guard }], guard := some (26, true) }) (v := ?_) rfl (by as_aux_lemma => kernel_rfl) (by as_aux_lemma => kernel_rfl) (by as_aux_lemma => kernel_rfl) (fun _ _ _ h => h) (Or.inl ⟨by rfl, ?_⟩) hHeld ?_
    rotate_left
    · intro w hSw
      clear hSw
      go_simp
      try with_reducible rfl
    try simp only [Act.put, List.setIfInBounds_toArray, List.set_cons_zero, List.set_cons_succ]
    refine wpAnyH_take (i := 28) (oi := { dst := some 151, op := Op.unOp UnOp.not 4 (Operand.tmp 150), type := 4, pos := "outright.go:123", after := #[{ on := 27, ground := Ground.data }, { on := 26, ground := Ground.guard }], guard := some (26, true) }) (v := ?_) rfl (by as_aux_lemma => kernel_rfl) (by as_aux_lemma => kernel_rfl) (by as_aux_lemma => kernel_rfl) (fun _ _ _ h => h) (Or.inl ⟨by rfl, ?_⟩) hHeld ?_
    rotate_left
    · intro w hSw
      clear hSw
      go_simp
      try with_reducible rfl
    try simp only [Act.put, List.setIfInBounds_toArray, List.set_cons_zero, List.set_cons_succ]
    refine wpAnyH_take (i := 29) (oi := { dst := some 152, op := Op.pick (Operand.tmp 149) (Operand.tmp 151) (Operand.const (Value.bool false)), type := 4, pos := "outright.go:123", after := #[{ on := 26, ground := Ground.data }, { on := 28, ground := Ground.data }], guard := none }) (v := ?_) rfl (by as_aux_lemma => kernel_rfl) (by as_aux_lemma => kernel_rfl) (by as_aux_lemma => kernel_rfl) (fun _ _ _ h => h) (Or.inl ⟨by rfl, ?_⟩) hHeld ?_
    rotate_left
    · intro w hSw
      clear hSw
      go_simp
      try with_reducible rfl
    try simp only [Act.put, List.setIfInBounds_toArray, List.set_cons_zero, List.set_cons_succ]
    refine wpAnyH_take (i := 30) (oi := { dst := some 153, op := Op.move (Operand.tmp 152), type := 4, pos := "outright.go:123", after := #[{ on := 29, ground := Ground.data }, { on := 26, ground := Ground.chain }], guard := none }) (v := ?_) rfl (by as_aux_lemma => kernel_rfl) (by as_aux_lemma => kernel_rfl) (by as_aux_lemma => kernel_rfl) (fun _ _ _ h => h) (Or.inl ⟨by rfl, ?_⟩) hHeld ?_
    rotate_left
    · intro w hSw
      clear hSw
      go_simp
      try with_reducible rfl
    try simp only [Act.put, List.setIfInBounds_toArray, List.set_cons_zero, List.set_cons_succ]
    refine wpAnyH_take (i := 31) (oi := { dst := some 154, op := Op.move (Operand.tmp 12), type := 24, pos := "outright.go:123", after := #[{ on := 30, ground := Ground.guard }], guard := some (30, true) }) (v := ?_) rfl (by as_aux_lemma => kernel_rfl) (by as_aux_lemma => kernel_rfl) (by as_aux_lemma => kernel_rfl) (fun _ _ _ h => h) (Or.inl ⟨by rfl, ?_⟩) hHeld ?_
    rotate_left
    · intro w hSw
      clear hSw
      go_simp
      try with_reducible rfl
    try simp only [Act.put, List.setIfInBounds_toArray, List.set_cons_zero, List.set_cons_succ]
    refine wpAnyH_take (i := 32) (oi := { dst := some 155, op := Op.binOp BinOp.eql 24 (Operand.tmp 154) (Operand.const (Value.int IntKind.i64 2)) 24, type := 4, pos := "outright.go:123", after := #[{ on := 31, ground := Ground.data }, { on := 30, ground := Ground.guard }], guard := some (30, true) }) (v := ?_) rfl (by as_aux_lemma => kernel_rfl) (by as_aux_lemma => kernel_rfl) (by as_aux_lemma => kernel_rfl) (fun _ _ _ h => h) (Or.inl ⟨by rfl, ?_⟩) hHeld ?_
    rotate_left
    · intro w hSw
      clear hSw
      go_simp
      try with_reducible rfl
    try simp only [Act.put, List.setIfInBounds_toArray, List.set_cons_zero, List.set_cons_succ]
    refine wpAnyH_take (i := 33) (oi := { dst := some 156, op := Op.pick (Operand.tmp 153) (Operand.tmp 155) (Operand.const (Value.bool false)), type := 4, pos := "outright.go:123", after := #[{ on := 30, ground := Ground.data }, { on := 32, ground := Ground.data }], guard := none }) (v := ?_) rfl (by as_aux_lemma => kernel_rfl) (by as_aux_lemma => kernel_rfl) (by as_aux_lemma => kernel_rfl) (fun _ _ _ h => h) (Or.inl ⟨by rfl, ?_⟩) hHeld ?_
    rotate_left
    · intro w hSw
      clear hSw
      go_simp
      try with_reducible rfl
    try simp only [Act.put, List.setIfInBounds_toArray, List.set_cons_zero, List.set_cons_succ]
    refine wpAnyH_take (i := 34) (oi := { dst := some 157, op := Op.move (Operand.tmp 156), type := 4, pos := "outright.go:123", after := #[{ on := 33, ground := Ground.data }, { on := 30, ground := Ground.chain }], guard := none }) (v := ?_) rfl (by as_aux_lemma => kernel_rfl) (by as_aux_lemma => kernel_rfl) (by as_aux_lemma => kernel_rfl) (fun _ _ _ h => h) (Or.inl ⟨by rfl, ?_⟩) hHeld ?_
    rotate_left
    · intro w hSw
      clear hSw
      go_simp
      try with_reducible rfl
    try simp only [Act.put, List.setIfInBounds_toArray, List.set_cons_zero, List.set_cons_succ]
    refine wpAnyH_take (i := 35) (oi := { dst := some 158, op := Op.move (Operand.tmp 14), type := 24, pos := "outright.go:123", after := #[{ on := 34, ground := Ground.guard }], guard := some (34, true) }) (v := ?_) rfl (by as_aux_lemma => kernel_rfl) (by as_aux_lemma => kernel_rfl) (by as_aux_lemma => kernel_rfl) (fun _ _ _ h => h) (Or.inl ⟨by rfl, ?_⟩) hHeld ?_
    rotate_left
    · intro w hSw
      clear hSw
      go_simp
      try with_reducible rfl
    try simp only [Act.put, List.setIfInBounds_toArray, List.set_cons_zero, List.set_cons_succ]
    refine wpAnyH_take (i := 36) (oi := { dst := some 159, op := Op.binOp BinOp.eql 24 (Operand.tmp 158) (Operand.const (Value.int IntKind.i64 2)) 24, type := 4, pos := "outright.go:123", after := #[{ on := 35, ground := Ground.data }, { on := 34, ground := Ground.guard }], guard := some (34, true) }) (v := ?_) rfl (by as_aux_lemma => kernel_rfl) (by as_aux_lemma => kernel_rfl) (by as_aux_lemma => kernel_rfl) (fun _ _ _ h => h) (Or.inl ⟨by rfl, ?_⟩) hHeld ?_
    rotate_left
    · intro w hSw
      clear hSw
      go_simp
      try with_reducible rfl
    try simp only [Act.put, List.setIfInBounds_toArray, List.set_cons_zero, List.set_cons_succ]
    refine wpAnyH_take (i := 37) (oi := { dst := some 160, op := Op.pick (Operand.tmp 157) (Operand.tmp 159) (Operand.const (Value.bool false)), type := 4, pos := "outright.go:123", after := #[{ on := 34, ground := Ground.data }, { on := 36, ground := Ground.data }], guard := none }) (v := ?_) rfl (by as_aux_lemma => kernel_rfl) (by as_aux_lemma => kernel_rfl) (by as_aux_lemma => kernel_rfl) (fun _ _ _ h => h) (Or.inl ⟨by rfl, ?_⟩) hHeld ?_
    rotate_left
    · intro w hSw
      clear hSw
      go_simp
      try with_reducible rfl
    try simp only [Act.put, List.setIfInBounds_toArray, List.set_cons_zero, List.set_cons_succ]
    refine wpAnyH_take (i := 38) (oi := { dst := some 161, op := Op.move (Operand.tmp 160), type := 4, pos := "outright.go:123", after := #[{ on := 37, ground := Ground.data }, { on := 34, ground := Ground.chain }], guard := none }) (v := ?_) rfl (by as_aux_lemma => kernel_rfl) (by as_aux_lemma => kernel_rfl) (by as_aux_lemma => kernel_rfl) (fun _ _ _ h => h) (Or.inl ⟨by rfl, ?_⟩) hHeld ?_
    rotate_left
    · intro w hSw
      clear hSw
      go_simp
      try with_reducible rfl
    try simp only [Act.put, List.setIfInBounds_toArray, List.set_cons_zero, List.set_cons_succ]
    refine wpAnyH_take (i := 39) (oi := { dst := some 162, op := Op.move (Operand.tmp 16), type := 24, pos := "outright.go:123", after := #[{ on := 38, ground := Ground.guard }], guard := some (38, true) }) (v := ?_) rfl (by as_aux_lemma => kernel_rfl) (by as_aux_lemma => kernel_rfl) (by as_aux_lemma => kernel_rfl) (fun _ _ _ h => h) (Or.inl ⟨by rfl, ?_⟩) hHeld ?_
    rotate_left
    · intro w hSw
      clear hSw
      go_simp
      try with_reducible rfl
    try simp only [Act.put, List.setIfInBounds_toArray, List.set_cons_zero, List.set_cons_succ]
    refine wpAnyH_take (i := 40) (oi := { dst := some 163, op := Op.binOp BinOp.eql 24 (Operand.tmp 162) (Operand.const (Value.int IntKind.i64 2)) 24, type := 4, pos := "outright.go:123", after := #[{ on := 39, ground := Ground.data }, { on := 38, ground := Ground.guard }], guard := some (38, true) }) (v := ?_) rfl (by as_aux_lemma => kernel_rfl) (by as_aux_lemma => kernel_rfl) (by as_aux_lemma => kernel_rfl) (fun _ _ _ h => h) (Or.inl ⟨by rfl, ?_⟩) hHeld ?_
    rotate_left
    · intro w hSw
      clear hSw
      go_simp
      try with_reducible rfl
    try simp only [Act.put, List.setIfInBounds_toArray, List.set_cons_zero, List.set_cons_succ]
    refine wpAnyH_take (i := 41) (oi := { dst := some 164, op := Op.pick (Operand.tmp 161) (Operand.tmp 163) (Operand.const (Value.bool false)), type := 4, pos := "outright.go:123", after := #[{ on := 38, ground := Ground.data }, { on := 40, ground := Ground.data }], guard := none }) (v := ?_) rfl (by as_aux_lemma => kernel_rfl) (by as_aux_lemma => kernel_rfl) (by as_aux_lemma => kernel_rfl) (fun _ _ _ h => h) (Or.inl ⟨by rfl, ?_⟩) hHeld ?_
    rotate_left
    · intro w hSw
      clear hSw
      go_simp
      try with_reducible rfl
    try simp only [Act.put, List.setIfInBounds_toArray, List.set_cons_zero, List.set_cons_succ]
    refine wpAnyH_take (i := 42) (oi := { dst := some 165, op := Op.move (Operand.tmp 164), type := 4, pos := "outright.go:123", after := #[{ on := 41, ground := Ground.data }, { on := 38, ground := Ground.chain }], guard := none }) (v := ?_) rfl (by as_aux_lemma => kernel_rfl) (by as_aux_lemma => kernel_rfl) (by as_aux_lemma => kernel_rfl) (fun _ _ _ h => h) (Or.inl ⟨by rfl, ?_⟩) hHeld ?_
    rotate_left
    · intro w hSw
      clear hSw
      go_simp
      try with_reducible rfl
    try simp only [Act.put, List.setIfInBounds_toArray, List.set_cons_zero, List.set_cons_succ]
    refine wpAnyH_take (i := 43) (oi := { dst := some 166, op := Op.move (Operand.tmp 18), type := 24, pos := "outright.go:123", after := #[{ on := 42, ground := Ground.guard }], guard := some (42, true) }) (v := ?_) rfl (by as_aux_lemma => kernel_rfl) (by as_aux_lemma => kernel_rfl) (by as_aux_lemma => kernel_rfl) (fun _ _ _ h => h) (Or.inl ⟨by rfl, ?_⟩) hHeld ?_
    rotate_left
    · intro w hSw
      clear hSw
      go_simp
      try with_reducible rfl
    try simp only [Act.put, List.setIfInBounds_toArray, List.set_cons_zero, List.set_cons_succ]
    refine wpAnyH_take (i := 44) (oi := { dst := some 167, op := Op.binOp BinOp.eql 24 (Operand.tmp 166) (Operand.const (Value.int IntKind.i64 2)) 24, type := 4, pos := "outright.go:123", after := #[{ on := 43, ground := Ground.data }, { on := 42, ground := Ground.guard }], guard := some (42, true) }) (v := ?_) rfl (by as_aux_lemma => kernel_rfl) (by as_aux_lemma => kernel_rfl) (by as_aux_lemma => kernel_rfl) (fun _ _ _ h => h) (Or.inl ⟨by rfl, ?_⟩) hHeld ?_
    rotate_left
    · intro w hSw
      clear hSw
      go_simp
      try with_reducible rfl
    try simp only [Act.put, List.setIfInBounds_toArray, List.set_cons_zero, List.set_cons_succ]
    refine wpAnyH_take (i := 45) (oi := { dst := some 168, op := Op.pick (Operand.tmp 165) (Operand.tmp 167) (Operand.const (Value.bool false)), type := 4, pos := "outright.go:123", after := #[{ on := 42, ground := Ground.data }, { on := 44, ground := Ground.data }], guard := none }) (v := ?_) rfl (by as_aux_lemma => kernel_rfl) (by as_aux_lemma => kernel_rfl) (by as_aux_lemma => kernel_rfl) (fun _ _ _ h => h) (Or.inl ⟨by rfl, ?_⟩) hHeld ?_
    rotate_left
    · intro w hSw
      clear hSw
      go_simp
      try with_reducible rfl
    try simp only [Act.put, List.setIfInBounds_toArray, List.set_cons_zero, List.set_cons_succ]
    refine wpAnyH_take (i := 46) (oi := { dst := some 169, op := Op.move (Operand.tmp 168), type := 4, pos := "outright.go:123", after := #[{ on := 45, ground := Ground.data }, { on := 42, ground := Ground.chain }], guard := none }) (v := ?_) rfl (by as_aux_lemma => kernel_rfl) (by as_aux_lemma => kernel_rfl) (by as_aux_lemma => kernel_rfl) (fun _ _ _ h => h) (Or.inl ⟨by rfl, ?_⟩) hHeld ?_
    rotate_left
    · intro w hSw
      clear hSw
      go_simp
      try with_reducible rfl
    try simp only [Act.put, List.setIfInBounds_toArray, List.set_cons_zero, List.set_cons_succ]
    refine wpAnyH_take (i := 47) (oi := { dst := some 170, op := Op.move (Operand.tmp 20), type := 24, pos := "outright.go:123", after := #[{ on := 46, ground := Ground.guard }], guard := some (46, true) }) (v := ?_) rfl (by as_aux_lemma => kernel_rfl) (by as_aux_lemma => kernel_rfl) (by as_aux_lemma => kernel_rfl) (fun _ _ _ h => h) (Or.inl ⟨by rfl, ?_⟩) hHeld ?_
    rotate_left
    · intro w hSw
      clear hSw
      go_simp
      try with_reducible rfl
    try simp only [Act.put, List.setIfInBounds_toArray, List.set_cons_zero, List.set_cons_succ]
    refine wpAnyH_take (i := 48) (oi := { dst := some 171, op := Op.binOp BinOp.eql 24 (Operand.tmp 170) (Operand.const (Value.int IntKind.i64 2)) 24, type := 4, pos := "outright.go:123", after := #[{ on := 47, ground := Ground.data }, { on := 46, ground := Ground.guard }], guard := some (46, true) }) (v := ?_) rfl (by as_aux_lemma => kernel_rfl) (by as_aux_lemma => kernel_rfl) (by as_aux_lemma => kernel_rfl) (fun _ _ _ h => h) (Or.inl ⟨by rfl, ?_⟩) hHeld ?_
    rotate_left
    · intro w hSw
      clear hSw
      go_simp
      try with_reducible rfl
    try simp only [Act.put, List.setIfInBounds_toArray, List.set_cons_zero, List.set_cons_succ]
    refine wpAnyH_take (i := 49) (oi := { dst := some 172, op := Op.pick (Operand.tmp 169) (Operand.tmp 171) (Operand.const (Value.bool false)), type := 4, pos := "outright.go:123", after := #[{ on := 46, ground := Ground.data }, { on := 48, ground := Ground.data }], guard := none }) (v := ?_) rfl (by as_aux_lemma => kernel_rfl) (by as_aux_lemma => kernel_rfl) (by as_aux_lemma => kernel_rfl) (fun _ _ _ h => h) (Or.inl ⟨by rfl, ?_⟩) hHeld ?_
    rotate_left
    · intro w hSw
      clear hSw
      go_simp
      try with_reducible rfl
    try simp only [Act.put, List.setIfInBounds_toArray, List.set_cons_zero, List.set_cons_succ]
    refine wpAnyH_take (i := 50) (oi := { dst := some 173, op := Op.move (Operand.tmp 172), type := 4, pos := "outright.go:123", after := #[{ on := 49, ground := Ground.data }, { on := 46, ground := Ground.chain }], guard := none }) (v := ?_) rfl (by as_aux_lemma => kernel_rfl) (by as_aux_lemma => kernel_rfl) (by as_aux_lemma => kernel_rfl) (fun _ _ _ h => h) (Or.inl ⟨by rfl, ?_⟩) hHeld ?_
    rotate_left
    · intro w hSw
      clear hSw
      go_simp
      try with_reducible rfl
    try simp only [Act.put, List.setIfInBounds_toArray, List.set_cons_zero, List.set_cons_succ]
    refine wpAnyH_take (i := 51) (oi := { dst := some 174, op := Op.move (Operand.tmp 24), type := 24, pos := "outright.go:123", after := #[{ on := 50, ground := Ground.guard }], guard := some (50, true) }) (v := ?_) rfl (by as_aux_lemma => kernel_rfl) (by as_aux_lemma => kernel_rfl) (by as_aux_lemma => kernel_rfl) (fun _ _ _ h => h) (Or.inl ⟨by rfl, ?_⟩) hHeld ?_
    rotate_left
    · intro w hSw
      clear hSw
      go_simp
      try with_reducible rfl
    try simp only [Act.put, List.setIfInBounds_toArray, List.set_cons_zero, List.set_cons_succ]
    refine wpAnyH_take (i := 52) (oi := { dst := some 175, op := Op.binOp BinOp.eql 24 (Operand.tmp 174) (Operand.const (Value.int IntKind.i64 1)) 24, type := 4, pos := "outright.go:123", after := #[{ on := 51, ground := Ground.data }, { on := 50, ground := Ground.guard }], guard := some (50, true) }) (v := ?_) rfl (by as_aux_lemma => kernel_rfl) (by as_aux_lemma => kernel_rfl) (by as_aux_lemma => kernel_rfl) (fun _ _ _ h => h) (Or.inl ⟨by rfl, ?_⟩) hHeld ?_
    rotate_left
    · intro w hSw
      clear hSw
      go_simp
      try with_reducible rfl
    try simp only [Act.put, List.setIfInBounds_toArray, List.set_cons_zero, List.set_cons_succ]
    refine wpAnyH_take (i := 53) (oi := { dst := some 176, op := Op.pick (Operand.tmp 173) (Operand.tmp 175) (Operand.const (Value.bool false)), type := 4, pos := "outright.go:123", after := #[{ on := 50, ground := Ground.data }, { on := 52, ground := Ground.data }], guard := none }) (v := ?_) rfl (by as_aux_lemma => kernel_rfl) (by as_aux_lemma => kernel_rfl) (by as_aux_lemma => kernel_rfl) (fun _ _ _ h => h) (Or.inl ⟨by rfl, ?_⟩) hHeld ?_
    rotate_left
    · intro w hSw
      clear hSw
      go_simp
      try with_reducible rfl
    try simp only [Act.put, List.setIfInBounds_toArray, List.set_cons_zero, List.set_cons_succ]
    refine wpAnyH_take (i := 54) (oi := { dst := some 177, op := Op.move (Operand.tmp 176), type := 4, pos := "outright.go:123", after := #[{ on := 53, ground := Ground.data }, { on := 50, ground := Ground.chain }], guard := none }) (v := ?_) rfl (by as_aux_lemma => kernel_rfl) (by as_aux_lemma => kernel_rfl) (by as_aux_lemma => kernel_rfl) (fun _ _ _ h => h) (Or.inl ⟨by rfl, ?_⟩) hHeld ?_
    rotate_left
    · intro w hSw
      clear hSw
      go_simp
      try with_reducible rfl
    try simp only [Act.put, List.setIfInBounds_toArray, List.set_cons_zero, List.set_cons_succ]
    refine wpAnyH_take (i := 55) (oi := { dst := some 178, op := Op.move (Operand.tmp 26), type := 24, pos := "outright.go:123", after := #[{ on := 54, ground := Ground.guard }], guard := some (54, true) }) (v := ?_) rfl (by as_aux_lemma => kernel_rfl) (by as_aux_lemma => kernel_rfl) (by as_aux_lemma => kernel_rfl) (fun _ _ _ h => h) (Or.inl ⟨by rfl, ?_⟩) hHeld ?_
    rotate_left
    · intro w hSw
      clear hSw
      go_simp
      try with_reducible rfl
    try simp only [Act.put, List.setIfInBounds_toArray, List.set_cons_zero, List.set_cons_succ]
    refine wpAnyH_take (i := 56) (oi := { dst := some 179, op := Op.binOp BinOp.eql 24 (Operand.tmp 178) (Operand.const (Value.int IntKind.i64 1)) 24, type := 4, pos := "outright.go:123", after := #[{ on := 55, ground := Ground.data }, { on := 54, ground := Ground.guard }], guard := some (54, true) }) (v := ?_) rfl (by as_aux_lemma => kernel_rfl) (by as_aux_lemma => kernel_rfl) (by as_aux_lemma => kernel_rfl) (fun _ _ _ h => h) (Or.inl ⟨by rfl, ?_⟩) hHeld ?_
    rotate_left
    · intro w hSw
      clear hSw
      go_simp
      try with_reducible rfl
    try simp only [Act.put, List.setIfInBounds_toArray, List.set_cons_zero, List.set_cons_succ]
    refine wpAnyH_take (i := 57) (oi := { dst := some 180, op := Op.pick (Operand.tmp 177) (Operand.tmp 179) (Operand.const (Value.bool false)), type := 4, pos := "outright.go:123", after := #[{ on := 54, ground := Ground.data }, { on := 56, ground := Ground.data }], guard := none }) (v := ?_) rfl (by as_aux_lemma => kernel_rfl) (by as_aux_lemma => kernel_rfl) (by as_aux_lemma => kernel_rfl) (fun _ _ _ h => h) (Or.inl ⟨by rfl, ?_⟩) hHeld ?_
    rotate_left
    · intro w hSw
      clear hSw
      go_simp
      try with_reducible rfl
    try simp only [Act.put, List.setIfInBounds_toArray, List.set_cons_zero, List.set_cons_succ]
    refine wpAnyH_take (i := 58) (oi := { dst := some 181, op := Op.move (Operand.tmp 180), type := 4, pos := "outright.go:123", after := #[{ on := 57, ground := Ground.data }, { on := 54, ground := Ground.chain }], guard := none }) (v := ?_) rfl (by as_aux_lemma => kernel_rfl) (by as_aux_lemma => kernel_rfl) (by as_aux_lemma => kernel_rfl) (fun _ _ _ h => h) (Or.inl ⟨by rfl, ?_⟩) hHeld ?_
    rotate_left
    · intro w hSw
      clear hSw
      go_simp
      try with_reducible rfl
    try simp only [Act.put, List.setIfInBounds_toArray, List.set_cons_zero, List.set_cons_succ]
    refine wpAnyH_take (i := 59) (oi := { dst := some 182, op := Op.move (Operand.tmp 28), type := 4, pos := "outright.go:123", after := #[{ on := 58, ground := Ground.guard }], guard := some (58, true) }) (v := ?_) rfl (by as_aux_lemma => kernel_rfl) (by as_aux_lemma => kernel_rfl) (by as_aux_lemma => kernel_rfl) (fun _ _ _ h => h) (Or.inl ⟨by rfl, ?_⟩) hHeld ?_
    rotate_left
    · intro w hSw
      clear hSw
      go_simp
      try with_reducible rfl
    try simp only [Act.put, List.setIfInBounds_toArray, List.set_cons_zero, List.set_cons_succ]
    refine wpAnyH_take (i := 60) (oi := { dst := some 183, op := Op.unOp UnOp.not 4 (Operand.tmp 182), type := 4, pos := "outright.go:123", after := #[{ on := 59, ground := Ground.data }, { on := 58, ground := Ground.guard }], guard := some (58, true) }) (v := ?_) rfl (by as_aux_lemma => kernel_rfl) (by as_aux_lemma => kernel_rfl) (by as_aux_lemma => kernel_rfl) (fun _ _ _ h => h) (Or.inl ⟨by rfl, ?_⟩) hHeld ?_
    rotate_left
    · intro w hSw
      clear hSw
      go_simp
      try with_reducible rfl
    try simp only [Act.put, List.setIfInBounds_toArray, List.set_cons_zero, List.set_cons_succ]
    refine wpAnyH_take (i := 61) (oi := { dst := some 184, op := Op.pick (Operand.tmp 181) (Operand.tmp 183) (Operand.const (Value.bool false)), type := 4, pos := "outright.go:123", after := #[{ on := 58, ground := Ground.data }, { on := 60, ground := Ground.data }], guard := none }) (v := ?_) rfl (by as_aux_lemma => kernel_rfl) (by as_aux_lemma => kernel_rfl) (by as_aux_lemma => kernel_rfl) (fun _ _ _ h => h) (Or.inl ⟨by rfl, ?_⟩) hHeld ?_
    rotate_left
    · intro w hSw
      clear hSw
      go_simp
      try with_reducible rfl
    try simp only [Act.put, List.setIfInBounds_toArray, List.set_cons_zero, List.set_cons_succ]
    refine wpAnyH_take (i := 62) (oi := { dst := some 185, op := Op.move (Operand.tmp 184), type := 4, pos := "outright.go:123", after := #[{ on := 61, ground := Ground.data }, { on := 58, ground := Ground.chain }], guard := none }) (v := ?_) rfl (by as_aux_lemma => kernel_rfl) (by as_aux_lemma => kernel_rfl) (by as_aux_lemma => kernel_rfl) (fun _ _ _ h => h) (Or.inl ⟨by rfl, ?_⟩) hHeld ?_
    rotate_left
    · intro w hSw
      clear hSw
      go_simp
      try with_reducible rfl
    try simp only [Act.put, List.setIfInBounds_toArray, List.set_cons_zero, List.set_cons_succ]
    refine wpAnyH_take (i := 63) (oi := { dst := some 186, op := Op.move (Operand.tmp 30), type := 4, pos := "outright.go:123", after := #[{ on := 62, ground := Ground.guard }], guard := some (62, true) }) (v := ?_) rfl (by as_aux_lemma => kernel_rfl) (by as_aux_lemma => kernel_rfl) (by as_aux_lemma => kernel_rfl) (fun _ _ _ h => h) (Or.inl ⟨by rfl, ?_⟩) hHeld ?_
    rotate_left
    · intro w hSw
      clear hSw
      go_simp
      try with_reducible rfl
    try simp only [Act.put, List.setIfInBounds_toArray, List.set_cons_zero, List.set_cons_succ]
    refine wpAnyH_take (i := 64) (oi := { dst := some 187, op := Op.unOp UnOp.not 4 (Operand.tmp 186), type := 4, pos := "outright.go:123", after := #[{ on := 63, ground := Ground.data }, { on := 62, ground := Ground.guard }], guard := some (62, true) }) (v := ?_) rfl (by as_aux_lemma => kernel_rfl) (by as_aux_lemma => kernel_rfl) (by as_aux_lemma => kernel_rfl) (fun _ _ _ h => h) (Or.inl ⟨by rfl, ?_⟩) hHeld ?_
    rotate_left
    · intro w hSw
      clear hSw
      go_simp
      try with_reducible rfl
    try simp only [Act.put, List.setIfInBounds_toArray, List.set_cons_zero, List.set_cons_succ]
    refine wpAnyH_take (i := 65) (oi := { dst := some 188, op := Op.pick (Operand.tmp 185) (Operand.tmp 187) (Operand.const (Value.bool false)), type := 4, pos := "outright.go:123", after := #[{ on := 62, ground := Ground.data }, { on := 64, ground := Ground.data }], guard := none }) (v := ?_) rfl (by as_aux_lemma => kernel_rfl) (by as_aux_lemma => kernel_rfl) (by as_aux_lemma => kernel_rfl) (fun _ _ _ h => h) (Or.inl ⟨by rfl, ?_⟩) hHeld ?_
    rotate_left
    · intro w hSw
      clear hSw
      go_simp
      try with_reducible rfl
    try simp only [Act.put, List.setIfInBounds_toArray, List.set_cons_zero, List.set_cons_succ]
    refine wpAnyH_take (i := 66) (oi := { dst := some 189, op := Op.move (Operand.tmp 188), type := 4, pos := "outright.go:123", after := #[{ on := 65, ground := Ground.data }, { on := 62, ground := Ground.chain }], guard := none }) (v := ?_) rfl (by as_aux_lemma => kernel_rfl) (by as_aux_lemma => kernel_rfl) (by as_aux_lemma => kernel_rfl) (fun _ _ _ h => h) (Or.inl ⟨by rfl, ?_⟩) hHeld ?_
    rotate_left
    · intro w hSw
      clear hSw
      go_simp
      try with_reducible rfl
    try simp only [Act.put, List.setIfInBounds_toArray, List.set_cons_zero, List.set_cons_succ]
    refine wpAnyH_take (i := 67) (oi := { dst := some 190, op := Op.move (Operand.tmp 21), type := 23, pos := "outright.go:123", after := #[{ on := 66, ground := Ground.guard }], guard := some (66, true) }) (v := ?_) rfl (by as_aux_lemma => kernel_rfl) (by as_aux_lemma => kernel_rfl) (by as_aux_lemma => kernel_rfl) (fun _ _ _ h => h) (Or.inl ⟨by rfl, ?_⟩) hHeld ?_
    rotate_left
    · intro w hSw
      clear hSw
      go_simp
      try with_reducible rfl
    try simp only [Act.put, List.setIfInBounds_toArray, List.set_cons_zero, List.set_cons_succ]
    refine wpAnyH_ready (rs := [68]) (by as_aux_lemma => kernel_rfl) (by simp) ?_
    refine AllReadyH.cons (o := { dst := some 191, op := Op.call { callee := Callee.value (Operand.func 10), args := #[Operand.const (Value.int IntKind.u8 10)], argTypes := #[5] }, type := 34, pos := "outright.go:123", after := #[{ on := 66, ground := Ground.chain }, { on := 66, ground := Ground.guard }], guard := some (66, true) }) rfl (fun K hK => ?_) AllReadyH.nil
    go_simp
    go_at_call 10
    refine (key_any 10 _).mono ?_
    rintro e wn ⟨rfl, hb⟩
    go_wp2_with fail
    refine hK.out _ _ (And.intro (hHeld.1.below hb hHeld.1.lt) (And.intro (hHeld.2.1.below hb hHeld.2.1.lt) (hHeld.2.2.out.trans (hb.mono hHeld.2.2.out.size)))) (fun hHeld => ?_)
    clear hK K
    try simp only [Act.put, List.setIfInBounds_toArray, List.set_cons_zero, List.set_cons_succ]
    refine wpAnyH_ready (rs := [69]) (by as_aux_lemma => kernel_rfl) (by simp) ?_
    refine AllReadyH.cons (o := { dst := some 192, op := Op.call { callee := Callee.value (Operand.func 12), args := #[Operand.tmp 190, Operand.tmp 191], argTypes := #[23, 34] }, type := 4, pos := "outright.go:123", after := #[{ on := 67, ground := Ground.data }, { on := 68, ground := Ground.data }, { on := 68, ground := Ground.chain }, { on := 66, ground := Ground.guard }], guard := some (66, true) }) rfl (fun K hK => ?_) AllReadyH.nil
    go_simp
    go_at_call 12
    refine (nogive_any (.pointer none) (kk 10) _ (fun o => NoneP.nil _)).mono ?_
    rintro e wn ⟨rfl, hb⟩
    go_wp2_with fail
    refine hK.out _ _ (And.intro (hHeld.1.below hb hHeld.1.lt) (And.intro (hHeld.2.1.below hb hHeld.2.1.lt) (hHeld.2.2.out.trans (hb.mono hHeld.2.2.out.size)))) (fun hHeld => ?_)
    clear hK K
    try simp only [Act.put, List.setIfInBounds_toArray, List.set_cons_zero, List.set_cons_succ]
    refine wpAnyH_take (i := 70) (oi := { dst := some 193, op := Op.unOp UnOp.not 4 (Operand.tmp 192), type := 4, pos := "outright.go:123", after := #[{ on := 69, ground := Ground.data }, { on := 66, ground := Ground.guard }], guard := some (66, true) }) (v := ?_) rfl (by as_aux_lemma => kernel_rfl) (by as_aux_lemma => kernel_rfl) (by as_aux_lemma => kernel_rfl) (fun _ _ _ h => h) (Or.inl ⟨by rfl, ?_⟩) hHeld ?_
    rotate_left
    · intro w hSw
      clear hSw
      go_simp
      try with_reducible rfl
    try simp only [Act.put, List.setIfInBounds_toArray, List.set_cons_zero, List.set_cons_succ]
    refine wpAnyH_take (i := 71) (oi := { dst := some 194, op := Op.pick (Operand.tmp 189) (Operand.tmp 193) (Operand.const (Value.bool false)), type := 4, pos := "outright.go:123", after := #[{ on := 66, ground := Ground.data }, { on := 70, ground := Ground.data }], guard := none }) (v := ?_) rfl (by as_aux_lemma => kernel_rfl) (by as_aux_lemma => kernel_rfl) (by as_aux_lemma => kernel_rfl) (fun _ _ _ h => h) (Or.inl ⟨by rfl, ?_⟩) hHeld ?_
    rotate_left
    · intro w hSw
      clear hSw
      go_simp
      try with_reducible rfl
    try simp only [Act.put, List.setIfInBounds_toArray, List.set_cons_zero, List.set_cons_succ]
    refine wpAnyH_take (i := 72) (oi := { dst := some 195, op := Op.move (Operand.tmp 194), type := 4, pos := "outright.go:123", after := #[{ on := 71, ground := Ground.data }, { on := 69, ground := Ground.chain }], guard := none }) (v := ?_) rfl (by as_aux_lemma => kernel_rfl) (by as_aux_lemma => kernel_rfl) (by as_aux_lemma => kernel_rfl) (fun _ _ _ h => h) (Or.inl ⟨by rfl, ?_⟩) hHeld ?_
    rotate_left
    · intro w hSw
      clear hSw
      go_simp
      try with_reducible rfl
    try simp only [Act.put, List.setIfInBounds_toArray, List.set_cons_zero, List.set_cons_succ]
    refine wpAnyH_take (i := 73) (oi := { dst := some 196, op := Op.move (Operand.tmp 21), type := 23, pos := "outright.go:123", after := #[{ on := 72, ground := Ground.guard }], guard := some (72, true) }) (v := ?_) rfl (by as_aux_lemma => kernel_rfl) (by as_aux_lemma => kernel_rfl) (by as_aux_lemma => kernel_rfl) (fun _ _ _ h => h) (Or.inl ⟨by rfl, ?_⟩) hHeld ?_
    rotate_left
    · intro w hSw
      clear hSw
      go_simp
      try with_reducible rfl
    try simp only [Act.put, List.setIfInBounds_toArray, List.set_cons_zero, List.set_cons_succ]
    refine wpAnyH_ready (rs := [74]) (by as_aux_lemma => kernel_rfl) (by simp) ?_
    refine AllReadyH.cons (o := { dst := some 197, op := Op.call { callee := Callee.value (Operand.func 11), args := #[Operand.tmp 196], argTypes := #[23] }, type := 3, pos := "outright.go:123", after := #[{ on := 73, ground := Ground.data }, { on := 72, ground := Ground.chain }, { on := 72, ground := Ground.guard }], guard := some (72, true) }) rfl (fun K hK => ?_) AllReadyH.nil
    go_simp
    go_at_call 11
    refine (noleft_any (.pointer none) _ (NoneP.nil _)).mono ?_
    rintro e wz ⟨rfl, rfl⟩
    go_wp2_with fail
    refine hK.out _ _ (hHeld) (fun hHeld => ?_)
    clear hK K
    try simp only [Act.put, List.setIfInBounds_toArray, List.set_cons_zero, List.set_cons_succ]
    refine wpAnyH_take (i := 75) (oi := { dst := some 198, op := Op.binOp BinOp.eql 3 (Operand.tmp 197) (Operand.const (Value.int IntKind.i64 0)) 3, type := 4, pos := "outright.go:123", after := #[{ on := 74, ground := Ground.data }, { on := 72, ground := Ground.guard }], guard := some (72, true) }) (v := ?_) rfl (by as_aux_lemma => kernel_rfl) (by as_aux_lemma => kernel_rfl) (by as_aux_lemma => kernel_rfl) (fun _ _ _ h => h) (Or.inl ⟨by rfl, ?_⟩) hHeld ?_
    rotate_left
    · intro w hSw
      clear hSw
      go_simp
      try with_reducible rfl
    try simp only [Act.put, List.setIfInBounds_toArray, List.set_cons_zero, List.set_cons_succ]
    refine wpAnyH_take (i := 76) (oi := { dst := some 199, op := Op.pick (Operand.tmp 195) (Operand.tmp 198) (Operand.const (Value.bool false)), type := 4, pos := "outright.go:123", after := #[{ on := 72, ground := Ground.data }, { on := 75, ground := Ground.data }], guard := none }) (v := ?_) rfl (by as_aux_lemma => kernel_rfl) (by as_aux_lemma => kernel_rfl) (by as_aux_lemma => kernel_rfl) (fun _ _ _ h => h) (Or.inl ⟨by rfl, ?_⟩) hHeld ?_
    rotate_left
    · intro w hSw
      clear hSw
      go_simp
      try with_reducible rfl
    try simp only [Act.put, List.setIfInBounds_toArray, List.set_cons_zero, List.set_cons_succ]
    refine wpAnyH_take (i := 77) (oi := { dst := some 200, op := Op.move (Operand.tmp 199), type := 4, pos := "outright.go:123", after := #[{ on := 76, ground := Ground.data }, { on := 74, ground := Ground.chain }], guard := none }) (v := ?_) rfl (by as_aux_lemma => kernel_rfl) (by as_aux_lemma => kernel_rfl) (by as_aux_lemma => kernel_rfl) (fun _ _ _ h => h) (Or.inl ⟨by rfl, ?_⟩) hHeld ?_
    rotate_left
    · intro w hSw
      clear hSw
      go_simp
      try with_reducible rfl
    try simp only [Act.put, List.setIfInBounds_toArray, List.set_cons_zero, List.set_cons_succ]
    refine wpAnyH_take (i := 78) (oi := { dst := some 201, op := Op.move (Operand.tmp 22), type := 23, pos := "outright.go:123", after := #[{ on := 77, ground := Ground.guard }], guard := some (77, true) }) (v := ?_) rfl (by as_aux_lemma => kernel_rfl) (by as_aux_lemma => kernel_rfl) (by as_aux_lemma => kernel_rfl) (fun _ _ _ h => h) (Or.inl ⟨by rfl, ?_⟩) hHeld ?_
    rotate_left
    · intro w hSw
      clear hSw
      go_simp
      try with_reducible rfl
    try simp only [Act.put, List.setIfInBounds_toArray, List.set_cons_zero, List.set_cons_succ]
    refine wpAnyH_ready (rs := [79]) (by as_aux_lemma => kernel_rfl) (by simp) ?_
    refine AllReadyH.cons (o := { dst := some 202, op := Op.call { callee := Callee.value (Operand.func 11), args := #[Operand.tmp 201], argTypes := #[23] }, type := 3, pos := "outright.go:123", after := #[{ on := 78, ground := Ground.data }, { on := 77, ground := Ground.chain }, { on := 77, ground := Ground.guard }], guard := some (77, true) }) rfl (fun K hK => ?_) AllReadyH.nil
    go_simp
    go_at_call 11
    refine (noleft_any (.pointer (some ⟨w18.heap.size, 0, none⟩)) _ (NoneP.empty _ _ hHeld.2.1.c4.2.2.1)).mono ?_
    rintro e wz ⟨rfl, rfl⟩
    go_wp2_with fail
    refine hK.out _ _ (hHeld) (fun hHeld => ?_)
    clear hK K
    try simp only [Act.put, List.setIfInBounds_toArray, List.set_cons_zero, List.set_cons_succ]
    refine wpAnyH_take (i := 80) (oi := { dst := some 203, op := Op.binOp BinOp.eql 3 (Operand.tmp 202) (Operand.const (Value.int IntKind.i64 0)) 3, type := 4, pos := "outright.go:123", after := #[{ on := 79, ground := Ground.data }, { on := 77, ground := Ground.guard }], guard := some (77, true) }) (v := ?_) rfl (by as_aux_lemma => kernel_rfl) (by as_aux_lemma => kernel_rfl) (by as_aux_lemma => kernel_rfl) (fun _ _ _ h => h) (Or.inl ⟨by rfl, ?_⟩) hHeld ?_
    rotate_left
    · intro w hSw
      clear hSw
      go_simp
      try with_reducible rfl
    try simp only [Act.put, List.setIfInBounds_toArray, List.set_cons_zero, List.set_cons_succ]
    refine wpAnyH_take (i := 81) (oi := { dst := some 204, op := Op.pick (Operand.tmp 200) (Operand.tmp 203) (Operand.const (Value.bool false)), type := 4, pos := "outright.go:123", after := #[{ on := 77, ground := Ground.data }, { on := 80, ground := Ground.data }], guard := none }) (v := ?_) rfl (by as_aux_lemma => kernel_rfl) (by as_aux_lemma => kernel_rfl) (by as_aux_lemma => kernel_rfl) (fun _ _ _ h => h) (Or.inl ⟨by rfl, ?_⟩) hHeld ?_
    rotate_left
    · intro w hSw
      clear hSw
      go_simp
      try with_reducible rfl
    try simp only [Act.put, List.setIfInBounds_toArray, List.set_cons_zero, List.set_cons_succ]
    refine wpAnyH_take (i := 82) (oi := { dst := some 205, op := Op.move (Operand.tmp 204), type := 4, pos := "outright.go:123", after := #[{ on := 81, ground := Ground.data }, { on := 79, ground := Ground.chain }], guard := none }) (v := ?_) rfl (by as_aux_lemma => kernel_rfl) (by as_aux_lemma => kernel_rfl) (by as_aux_lemma => kernel_rfl) (fun _ _ _ h => h) (Or.inl ⟨by rfl, ?_⟩) hHeld ?_
    rotate_left
    · intro w hSw
      clear hSw
      go_simp
      try with_reducible rfl
    try simp only [Act.put, List.setIfInBounds_toArray, List.set_cons_zero, List.set_cons_succ]
    refine wpAnyH_take (i := 83) (oi := { dst := some 206, op := Op.move (Operand.tmp 21), type := 23, pos := "outright.go:123", after := #[{ on := 82, ground := Ground.guard }], guard := some (82, true) }) (v := ?_) rfl (by as_aux_lemma => kernel_rfl) (by as_aux_lemma => kernel_rfl) (by as_aux_lemma => kernel_rfl) (fun _ _ _ h => h) (Or.inl ⟨by rfl, ?_⟩) hHeld ?_
    rotate_left
    · intro w hSw
      clear hSw
      go_simp
      try with_reducible rfl
    try simp only [Act.put, List.setIfInBounds_toArray, List.set_cons_zero, List.set_cons_succ]
    refine wpAnyH_ready (rs := [84]) (by as_aux_lemma => kernel_rfl) (by simp) ?_
    refine AllReadyH.cons (o := { dst := some 207, op := Op.call { callee := Callee.value (Operand.func 19), args := #[Operand.tmp 206], argTypes := #[23] }, type := 23, pos := "outright.go:123", after := #[{ on := 83, ground := Ground.data }, { on := 82, ground := Ground.chain }, { on := 82, ground := Ground.guard }], guard := some (82, true) }) rfl (fun K hK => ?_) AllReadyH.nil
    go_simp
    go_at_call 19
    refine (nocopy_any (.pointer none) _ (NoneP.nil _)).mono ?_
    rintro e wz ⟨rfl, rfl⟩
    go_wp2_with fail
    refine hK.out _ _ (hHeld) (fun hHeld => ?_)
    clear hK K
    try simp only [Act.put, List.setIfInBounds_toArray, List.set_cons_zero, List.set_cons_succ]
    refine wpAnyH_take (i := 85) (oi := { dst := some 208, op := Op.binOp BinOp.eql 23 (Operand.tmp 207) (Operand.const (Value.pointer none)) 23, type := 4, pos := "outright.go:123", after := #[{ on := 84, ground := Ground.data }, { on := 82, ground := Ground.guard }], guard := some (82, true) }) (v := ?_) rfl (by as_aux_lemma => kernel_rfl) (by as_aux_lemma => kernel_rfl) (by as_aux_lemma => kernel_rfl) (fun _ _ _ h => h) (Or.inl ⟨by rfl, ?_⟩) hHeld ?_
    rotate_left
    · intro w hSw
      clear hSw
      go_simp
      try with_reducible rfl
    try simp only [Act.put, List.setIfInBounds_toArray, List.set_cons_zero, List.set_cons_succ]
    refine wpAnyH_take (i := 86) (oi := { dst := some 209, op := Op.pick (Operand.tmp 205) (Operand.tmp 208) (Operand.const (Value.bool false)), type := 4, pos := "outright.go:123", after := #[{ on := 82, ground := Ground.data }, { on := 85, ground := Ground.data }], guard := none }) (v := ?_) rfl (by as_aux_lemma => kernel_rfl) (by as_aux_lemma => kernel_rfl) (by as_aux_lemma => kernel_rfl) (fun _ _ _ h => h) (Or.inl ⟨by rfl, ?_⟩) hHeld ?_
    rotate_left
    · intro w hSw
      clear hSw
      go_simp
      try with_reducible rfl
    try simp only [Act.put, List.setIfInBounds_toArray, List.set_cons_zero, List.set_cons_succ]
    refine wpAnyH_take (i := 87) (oi := { dst := some 210, op := Op.move (Operand.tmp 209), type := 4, pos := "outright.go:123", after := #[{ on := 86, ground := Ground.data }, { on := 84, ground := Ground.chain }], guard := none }) (v := ?_) rfl (by as_aux_lemma => kernel_rfl) (by as_aux_lemma => kernel_rfl) (by as_aux_lemma => kernel_rfl) (fun _ _ _ h => h) (Or.inl ⟨by rfl, ?_⟩) hHeld ?_
    rotate_left
    · intro w hSw
      clear hSw
      go_simp
      try with_reducible rfl
    try simp only [Act.put, List.setIfInBounds_toArray, List.set_cons_zero, List.set_cons_succ]
    refine wpAnyH_take (i := 88) (oi := { dst := some 211, op := Op.move (Operand.tmp 22), type := 23, pos := "outright.go:123", after := #[{ on := 87, ground := Ground.guard }], guard := some (87, true) }) (v := ?_) rfl (by as_aux_lemma => kernel_rfl) (by as_aux_lemma => kernel_rfl) (by as_aux_lemma => kernel_rfl) (fun _ _ _ h => h) (Or.inl ⟨by rfl, ?_⟩) hHeld ?_
    rotate_left
    · intro w hSw
      clear hSw
      go_simp
      try with_reducible rfl
    try simp only [Act.put, List.setIfInBounds_toArray, List.set_cons_zero, List.set_cons_succ]
    refine wpAnyH_ready (rs := [89]) (by as_aux_lemma => kernel_rfl) (by simp) ?_
    refine AllReadyH.cons (o := { dst := some 212, op := Op.call { callee := Callee.value (Operand.func 19), args := #[Operand.tmp 211], argTypes := #[23] }, type := 23, pos := "outright.go:123", after := #[{ on := 88, ground := Ground.data }, { on := 87, ground := Ground.chain }, { on := 87, ground := Ground.guard }], guard := some (87, true) }) rfl (fun K hK => ?_) AllReadyH.nil
    go_simp
    go_at_call 19
    refine (nocopy_any (.pointer (some ⟨w18.heap.size, 0, none⟩)) _ (NoneP.empty _ _ hHeld.2.1.c4.2.2.1)).mono ?_
    rintro e wz ⟨rfl, rfl⟩
    go_wp2_with fail
    refine hK.out _ _ (hHeld) (fun hHeld => ?_)
    clear hK K
    try simp only [Act.put, List.setIfInBounds_toArray, List.set_cons_zero, List.set_cons_succ]
    refine wpAnyH_take (i := 90) (oi := { dst := some 213, op := Op.binOp BinOp.eql 23 (Operand.tmp 212) (Operand.const (Value.pointer none)) 23, type := 4, pos := "outright.go:123", after := #[{ on := 89, ground := Ground.data }, { on := 87, ground := Ground.guard }], guard := some (87, true) }) (v := ?_) rfl (by as_aux_lemma => kernel_rfl) (by as_aux_lemma => kernel_rfl) (by as_aux_lemma => kernel_rfl) (fun _ _ _ h => h) (Or.inl ⟨by rfl, ?_⟩) hHeld ?_
    rotate_left
    · intro w hSw
      clear hSw
      go_simp
      try with_reducible rfl
    try simp only [Act.put, List.setIfInBounds_toArray, List.set_cons_zero, List.set_cons_succ]
    refine wpAnyH_take (i := 91) (oi := { dst := some 214, op := Op.pick (Operand.tmp 210) (Operand.tmp 213) (Operand.const (Value.bool false)), type := 4, pos := "outright.go:123", after := #[{ on := 87, ground := Ground.data }, { on := 90, ground := Ground.data }], guard := none }) (v := ?_) rfl (by as_aux_lemma => kernel_rfl) (by as_aux_lemma => kernel_rfl) (by as_aux_lemma => kernel_rfl) (fun _ _ _ h => h) (Or.inl ⟨by rfl, ?_⟩) hHeld ?_
    rotate_left
    · intro w hSw
      clear hSw
      go_simp
      try with_reducible rfl
    try simp only [Act.put, List.setIfInBounds_toArray, List.set_cons_zero, List.set_cons_succ]
    refine wpAnyH_take (i := 92) (oi := { dst := some 0, op := Op.assign (Operand.tmp 214), type := 4, pos := "outright.go:123", after := ([{ on := 91, ground := Ground.data }, { on := 89, ground := Ground.chain }, { on := 0, ground := Ground.phase }, { on := 1, ground := Ground.phase }, { on := 2, ground := Ground.phase }, { on := 3, ground := Ground.phase }, { on := 4, ground := Ground.phase }, { on := 5, ground := Ground.phase }, { on := 6, ground := Ground.phase }, { on := 7, ground := Ground.phase }, { on := 8, ground := Ground.phase }, { on := 9, ground := Ground.phase }, { on := 10, ground := Ground.phase }, { on := 11, ground := Ground.phase }, { on := 12, ground := Ground.phase }, { on := 13, ground := Ground.phase }, { on := 14, ground := Ground.phase }, { on := 15, ground := Ground.phase }, { on := 16, ground := Ground.phase }, { on := 17, ground := Ground.phase }, { on := 18, ground := Ground.phase }, { on := 19, ground := Ground.phase }, { on := 20, ground := Ground.phase }, { on := 21, ground := Ground.phase }, { on := 22, ground := Ground.phase }, { on := 23, ground := Ground.phase }, { on := 24, ground := Ground.phase }, { on := 25, ground := Ground.phase }, { on := 26, ground := Ground.phase }, { on := 27, ground := Ground.phase }, { on := 28, ground := Ground.phase }, { on := 29, ground := Ground.phase }, { on := 30, ground := Ground.phase }, { on := 31, ground := Ground.phase }, { on := 32, ground := Ground.phase }, { on := 33, ground := Ground.phase }, { on := 34, ground := Ground.phase }, { on := 35, ground := Ground.phase }, { on := 36, ground := Ground.phase }, { on := 37, ground := Ground.phase }, { on := 38, ground := Ground.phase }, { on := 39, ground := Ground.phase }, { on := 40, ground := Ground.phase }, { on := 41, ground := Ground.phase }, { on := 42, ground := Ground.phase }, { on := 43, ground := Ground.phase }, { on := 44, ground := Ground.phase }].append [{ on := 45, ground := Ground.phase }, { on := 46, ground := Ground.phase }, { on := 47, ground := Ground.phase }, { on := 48, ground := Ground.phase }, { on := 49, ground := Ground.phase }, { on := 50, ground := Ground.phase }, { on := 51, ground := Ground.phase }, { on := 52, ground := Ground.phase }, { on := 53, ground := Ground.phase }, { on := 54, ground := Ground.phase }, { on := 55, ground := Ground.phase }, { on := 56, ground := Ground.phase }, { on := 57, ground := Ground.phase }, { on := 58, ground := Ground.phase }, { on := 59, ground := Ground.phase }, { on := 60, ground := Ground.phase }, { on := 61, ground := Ground.phase }, { on := 62, ground := Ground.phase }, { on := 63, ground := Ground.phase }, { on := 64, ground := Ground.phase }, { on := 65, ground := Ground.phase }, { on := 66, ground := Ground.phase }, { on := 67, ground := Ground.phase }, { on := 68, ground := Ground.phase }, { on := 69, ground := Ground.phase }, { on := 70, ground := Ground.phase }, { on := 71, ground := Ground.phase }, { on := 72, ground := Ground.phase }, { on := 73, ground := Ground.phase }, { on := 74, ground := Ground.phase }, { on := 75, ground := Ground.phase }, { on := 76, ground := Ground.phase }, { on := 77, ground := Ground.phase }, { on := 78, ground := Ground.phase }, { on := 79, ground := Ground.phase }, { on := 80, ground := Ground.phase }, { on := 81, ground := Ground.phase }, { on := 82, ground := Ground.phase }, { on := 83, ground := Ground.phase }, { on := 84, ground := Ground.phase }, { on := 85, ground := Ground.phase }, { on := 86, ground := Ground.phase }, { on := 87, ground := Ground.phase }, { on := 88, ground := Ground.phase }, { on := 89, ground := Ground.phase }, { on := 90, ground := Ground.phase }, { on := 91, ground := Ground.phase }]).toArray, guard := none }) (v := ?_) rfl (by as_aux_lemma => kernel_rfl) (by as_aux_lemma => kernel_rfl) (by as_aux_lemma => kernel_rfl) (fun _ _ _ h => h) (Or.inl ⟨by rfl, ?_⟩) hHeld ?_
    rotate_left
    · intro w hSw
      clear hSw
      go_simp
      try with_reducible rfl
    try simp only [Act.put, List.setIfInBounds_toArray, List.set_cons_zero, List.set_cons_succ]
    refine wpAnyH_done (by as_aux_lemma => kernel_rfl) ?_ _
    have HB := hHeld.2.2.out
    clear hHeld
    go_wp2_with fail
    go_ret
    exact ⟨rfl, HB⟩

set_option maxRecDepth 100000 in
theorem labelsKnown_lifted (os : Os) (started : os.Started) (H : Type) (enc : TypeId × Value → H) :
    ReturnsInHanded {} Try.checked os 6 .any (Rows.labelsKnownSpec.pre6 enc Try.prog Try.f6 Rows.labelsKnownRow.domain false) (Rows.labelsKnownSpec.post enc Try.prog Try.f6 false true false false) := by
  refine returnsInHanded_of_change (C := Try.checked) own started (by kernel_rfl) Try.func6
    (ChangeSpec.witness6 (enc := enc) (C := Try.checked) false ⟨#[], #[], []⟩ 8 (by kernel_rfl) (by kernel_rfl) (by kernel_rfl) (by kernel_rfl)) ?_
  intro W base args ds gs before hval0 hW hcnd _
  have hval : ∀ (j : Nat) t v, Try.f6.params[j]? = some t → args[j]? = some v → Value.okWide Try.prog W .any base t v := hval0
  have hW' := hW
  obtain ⟨p, q, hA0, hV, rfl, hfz, hnd⟩ := hW
  have hA : DataW.TrodAll enc Try.prog W 0 (fun _ => true) true Try.f6.params.toList args.toList ds p := hA0
  rw [Try.params6] at hA hval
  obtain ⟨hargs, rfl, rfl⟩ := trodAll_none hA
  obtain rfl : args = #[] := by cases args; simp_all
  obtain ⟨rfl, rfl⟩ := trodVars_none hV
  refine (labelsKnown_walk W).mono fun e W' ⟨he, bel⟩ => ?_
  exact ⟨_, he, law_post laidOut (by kernel_rfl) rfl (by kernel_rfl) Try.underlying4 hW' rfl bel⟩

theorem labelsKnown_holds : Rows.LabelsKnownSaid :=
  OpenClaim.holds_of_wide 6 Try.f6 rfl rfl rfl rfl rfl rfl rfl ⟨rfl, rfl, rfl, rfl, rfl⟩ rfl rfl rfl rfl rfl (by kernel_rfl) Try.func6 (by kernel_rfl)
    (of_decide_eq_true (by kernel_rfl)) (by unfold Func.isWrapper; first | (rw [if_pos (by decide +kernel)]; kernel_rfl) | (rw [if_neg (by decide +kernel)]; exact ⟨rfl, rfl⟩))
    (fun os started H enc _ => labelsKnown_lifted os started H enc)

end Go.Proofs.Ytngehobekmijbaa
