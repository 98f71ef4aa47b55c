/-
  Contracts of heraldref08.TakeGone, Take. Conditions: sizes.
-/
import Derived.Test.YtocbacpbckejdaaNmM
import Derived.BigRegion
set_option linter.unusedVariables false
set_option linter.unusedSimpArgs false
namespace Go.Proofs.Ytocbacpbckejdaa
open Go.RowKit

theorem restF_eq (s : ByteArray) : restF s = s.extract 3 s.size := by
  have e1 := bts_extract s.data.toList 2 s.size
  rw [bts_self] at e1
  have e2 := bts_extract s.data.toList 3 s.size
  rw [bts_self] at e2
  have hl : s.data.toList.length = s.size := by rw [Array.length_toList]; rfl
  unfold restF
  rw [e1, e2, bts_extract, bts_size, List.drop_take, List.drop_drop]
  congr 1
  apply List.ext_getElem?
  intro i
  simp only [List.getElem?_take, List.length_take, List.length_drop, hl]
  by_cases h : i < s.size - 3
  · rw [if_pos (by omega), if_pos (by omega), if_pos h]
  · rw [if_neg h]
    split
    · split
      · rw [List.getElem?_eq_none (by rw [List.length_drop]; omega)]
      · rfl
    · rfl
theorem bts_ext2 (l : List UInt8) (i j : Nat) : (bts (l.drop i)).extract j (bts (l.drop i)).size = bts (l.drop (i + j)) := by
  rw [bts_extract, bts_size, List.drop_drop]
  congr 1
  apply List.take_of_length_le
  rw [List.length_drop, List.length_drop]
  omega
theorem ext_tail (l : List UInt8) (k : Nat) : (bts l).extract k (bts l).size = bts (l.drop k) := by
  have h := bts_ext2 l 0 k
  rwa [List.drop_zero, Nat.zero_add] at h
theorem take_short {s : ByteArray} {adds : List Int} (h3 : ¬ s.size < 3) (hf : ¬ pairF s = 0) (h4 : s.size < 4) : takeF s adds = .error 4 := by
  unfold takeF
  rw [if_neg h3, if_neg hf, restF_eq]
  have hz : (s.extract 3 s.size).size = 0 := by rw [ByteArray.size_extract]; omega
  have e1 : tN (s.extract 3 s.size) 1 = 0 := if_neg (by omega)
  have e2 : tR (s.extract 3 s.size) 1 = s.extract 3 s.size := if_neg (by omega)
  rw [e1, e2, if_neg (by omega), if_pos (by rw [ByteArray.size_extract]; omega)]
theorem take_long {s : ByteArray} {adds : List Int} {x : UInt8} (h3 : ¬ s.size < 3) (hf : ¬ pairF s = 0) (hx : s.data.toList[3]? = some x) :
    (s.size < 4 + x.toNat + 1 → takeF s adds = .error 4) ∧ (¬ s.size < 4 + x.toNat + 1 →
      ((hopF (pairF s) x.toNat (s.extract 4 (4 + x.toNat))).size ≠ (zeroV (pairF s)).toNat + (sizeV (pairF s)).toNat → takeF s adds = .error 4) ∧
      ((hopF (pairF s) x.toNat (s.extract 4 (4 + x.toNat))).extract 0 (zeroV (pairF s)).toNat ≠ noughts (zeroV (pairF s)).toNat → takeF s adds = .error 4) ∧
      ((hopF (pairF s) x.toNat (s.extract 4 (4 + x.toNat))).size = (zeroV (pairF s)).toNat + (sizeV (pairF s)).toNat → (hopF (pairF s) x.toNat (s.extract 4 (4 + x.toNat))).extract 0 (zeroV (pairF s)).toNat = noughts (zeroV (pairF s)).toNat →
        takeF s adds = match decAll (pairF s) (hasI adds (pairF s)) (s.extract (4 + x.toNat + 1) s.size) with | none => .error 4 | some L => .ok (pairF s, (hopF (pairF s) x.toNat (s.extract 4 (4 + x.toNat))).extract (zeroV (pairF s)).toNat (hopF (pairF s) x.toNat (s.extract 4 (4 + x.toNat))).size, L))) := by
  obtain ⟨l, hl⟩ : ∃ l, l = s.data.toList := ⟨_, rfl⟩
  have hsl : s = bts l := by rw [hl, bts_self]
  have hll : l.length = s.size := by rw [hl, Array.length_toList]; rfl
  rw [← hl] at hx
  have h4 := (List.getElem?_eq_some_iff.1 hx).1
  have er : restF s = bts (l.drop 3) := by
    rw [restF_eq, hsl, ext_tail]
  have e1 : tN (restF s) 1 = x.toNat := by
    rw [er, tN_bts (by rw [List.length_drop]; omega)]
    have e : (l.drop 3).take 1 = [x] := by
      rw [List.take_one, List.head?_drop, hx]
      rfl
    rw [e, beVal_one]
  have e2 : tR (restF s) 1 = bts (l.drop 4) := by
    rw [er, tR_bts (by rw [List.length_drop]; omega), List.drop_drop]
  have e3 : (bts (l.drop 4)).size = s.size - 4 := by rw [bts_size, List.length_drop]; omega
  have e4 : (bts (l.drop 4)).extract 0 x.toNat = s.extract 4 (4 + x.toNat) := by
    rw [hsl, bts_extract, bts_extract, List.drop_zero, show 4 + x.toNat - 4 = x.toNat - 0 by omega]
  have e5 : (bts (l.drop 4)).extract x.toNat (bts (l.drop 4)).size = bts (l.drop (4 + x.toNat)) := bts_ext2 l 4 x.toNat
  have e6 : (bts (l.drop (4 + x.toNat))).extract 1 (bts (l.drop (4 + x.toNat))).size = s.extract (4 + x.toNat + 1) s.size := by
    rw [bts_ext2, hsl, ext_tail]
  have e7 : (bts (l.drop (4 + x.toNat))).size = s.size - (4 + x.toNat) := by rw [bts_size, List.length_drop]; omega
  have er : ∀ X, X = takeF s adds → X = takeF s adds := fun _ h => h
  unfold takeF
  rw [if_neg h3, if_neg hf, e1, e2, e3, e4]
  rw [← e3, e5, e6, e7, e3]
  refine ⟨fun h => ?_, fun h => ⟨fun k => ?_, fun k => ?_, fun k1 k2 => ?_⟩⟩
  · by_cases q : s.size - 4 < x.toNat
    · rw [if_pos q]
    · rw [if_neg q, if_pos (by omega)]
  · rw [if_neg (by omega), if_neg (by omega), if_pos k]
  · rw [if_neg (by omega), if_neg (by omega), if_pos k, ite_self]
  · rw [if_neg (by omega), if_neg (by omega), if_neg (fun q => q k1), if_neg (fun q => q k2)]
    cases decAll (pairF s) (hasI adds (pairF s)) (s.extract (4 + x.toNat + 1) s.size) <;> rfl
abbrev gO0 : Oper := { dst := some 19, op := Op.move (Operand.tmp 0), type := 9, pos := "ref.go:153", after := #[], guard := none }
abbrev gO1 : Oper := { dst := some 20, op := Op.slice 9 (Operand.tmp 19) (some (Operand.const (Value.int IntKind.i64 3))) none none, type := 9, pos := "ref.go:153", after := #[{ on := 0, ground := Ground.data }], guard := none }
abbrev gO2 : Oper := { dst := some 21, op := Op.move (Operand.tmp 7), type := 3, pos := "ref.go:153", after := #[], guard := none }
abbrev gO3 : Oper := { dst := some 22, op := Op.move (Operand.tmp 1), type := 39, pos := "ref.go:153", after := #[], guard := none }
abbrev gO4 : Oper := { dst := some 23, op := Op.move (Operand.tmp 7), type := 3, pos := "ref.go:153", after := #[], guard := none }
abbrev gO5 : Oper := { dst := some 24, op := Op.call { callee := Callee.value (Operand.func 45), args := #[Operand.tmp 22, Operand.tmp 23], argTypes := #[39, 3] }, type := 4, pos := "ref.go:153", after := #[{ on := 3, ground := Ground.data }, { on := 4, ground := Ground.data }], guard := none }
abbrev gO6 : Oper := { dst := some 25, op := Op.call { callee := Callee.value (Operand.func 44), args := #[Operand.tmp 20, Operand.tmp 21, Operand.tmp 24], argTypes := #[9, 3, 4] }, type := 77, pos := "ref.go:153", after := #[{ on := 1, ground := Ground.data }, { on := 2, ground := Ground.data }, { on := 5, ground := Ground.data }, { on := 5, ground := Ground.chain }], guard := none }
abbrev gO7 : Oper := { dst := some 18, op := Op.move (Operand.tmp 25), type := 77, pos := "ref.go:153", after := #[{ on := 6, ground := Ground.data }], guard := none }
abbrev gO8 : Oper := { dst := some 26, op := Op.extract (Operand.tmp 18) 0, type := 29, pos := "ref.go:153", after := #[{ on := 7, ground := Ground.data }], guard := none }
abbrev gO9 : Oper := { dst := some 27, op := Op.extract (Operand.tmp 18) 1, type := 33, pos := "ref.go:153", after := #[{ on := 7, ground := Ground.data }, { on := 10, ground := Ground.gcOnly Departure.lateStores }], guard := none }
abbrev gO10 : Oper := { dst := some 9, op := Op.assign (Operand.tmp 26), type := 29, pos := "ref.go:153", after := #[{ on := 8, ground := Ground.data }, { on := 6, ground := Ground.chain }, { on := 0, ground := Ground.phase }, { on := 1, ground := Ground.phase }, { on := 2, ground := Ground.phase }, { on := 3, ground := Ground.phase }, { on := 4, ground := Ground.phase }, { on := 5, ground := Ground.phase }, { on := 6, ground := Ground.phase }, { on := 7, ground := Ground.phase }, { on := 8, ground := Ground.phase }, { on := 9, ground := Ground.textOnly Departure.lateStores }], guard := none }
abbrev gO11 : Oper := { dst := some 8, op := Op.assign (Operand.tmp 27), type := 33, pos := "ref.go:153", after := #[{ on := 9, ground := Ground.data }, { on := 10, ground := Ground.chain }, { on := 0, ground := Ground.phase }, { on := 1, ground := Ground.phase }, { on := 2, ground := Ground.phase }, { on := 3, ground := Ground.phase }, { on := 4, ground := Ground.phase }, { on := 5, ground := Ground.phase }, { on := 6, ground := Ground.phase }, { on := 7, ground := Ground.phase }, { on := 8, ground := Ground.phase }, { on := 9, ground := Ground.phase }, { on := 10, ground := Ground.phase }], guard := none }
abbrev kO0 : Oper := { dst := some 68, op := Op.move (Operand.tmp 0), type := 9, pos := "ref.go:140", after := #[], guard := none }
abbrev kO1 : Oper := { dst := some 69, op := Op.move (Operand.tmp 10), type := 3, pos := "ref.go:140", after := #[], guard := none }
abbrev kO2 : Oper := { dst := some 70, op := Op.binOp BinOp.add 3 (Operand.const (Value.int IntKind.i64 4)) (Operand.tmp 69) 3, type := 3, pos := "ref.go:140", after := #[{ on := 1, ground := Ground.data }], guard := none }
abbrev kO3 : Oper := { dst := some 71, op := Op.binOp BinOp.add 3 (Operand.tmp 70) (Operand.const (Value.int IntKind.i64 1)) 3, type := 3, pos := "ref.go:140", after := #[{ on := 2, ground := Ground.data }], guard := none }
abbrev kO4 : Oper := { dst := some 72, op := Op.slice 9 (Operand.tmp 68) (some (Operand.tmp 71)) none none, type := 9, pos := "ref.go:140", after := #[{ on := 0, ground := Ground.data }, { on := 3, ground := Ground.data }], guard := none }
abbrev kO5 : Oper := { dst := some 73, op := Op.move (Operand.tmp 8), type := 3, pos := "ref.go:140", after := #[], guard := none }
abbrev kO6 : Oper := { dst := some 74, op := Op.move (Operand.tmp 1), type := 39, pos := "ref.go:140", after := #[], guard := none }
abbrev kO7 : Oper := { dst := some 75, op := Op.move (Operand.tmp 8), type := 3, pos := "ref.go:140", after := #[], guard := none }
abbrev kO8 : Oper := { dst := some 76, op := Op.call { callee := Callee.value (Operand.func 45), args := #[Operand.tmp 74, Operand.tmp 75], argTypes := #[39, 3] }, type := 4, pos := "ref.go:140", after := #[{ on := 6, ground := Ground.data }, { on := 7, ground := Ground.data }], guard := none }
abbrev kO9 : Oper := { dst := some 77, op := Op.call { callee := Callee.value (Operand.func 44), args := #[Operand.tmp 72, Operand.tmp 73, Operand.tmp 76], argTypes := #[9, 3, 4] }, type := 77, pos := "ref.go:140", after := #[{ on := 4, ground := Ground.data }, { on := 5, ground := Ground.data }, { on := 8, ground := Ground.data }, { on := 8, ground := Ground.chain }], guard := none }
abbrev kO10 : Oper := { dst := some 67, op := Op.move (Operand.tmp 77), type := 77, pos := "ref.go:140", after := #[{ on := 9, ground := Ground.data }], guard := none }
abbrev kO11 : Oper := { dst := some 78, op := Op.extract (Operand.tmp 67) 0, type := 29, pos := "ref.go:140", after := #[{ on := 10, ground := Ground.data }], guard := none }
abbrev kO12 : Oper := { dst := some 79, op := Op.extract (Operand.tmp 67) 1, type := 33, pos := "ref.go:140", after := #[{ on := 10, ground := Ground.data }, { on := 13, ground := Ground.gcOnly Departure.lateStores }], guard := none }
abbrev kO13 : Oper := { dst := some 14, op := Op.assign (Operand.tmp 78), type := 29, pos := "ref.go:140", after := #[{ on := 11, ground := Ground.data }, { on := 9, ground := Ground.chain }, { on := 0, ground := Ground.phase }, { on := 1, ground := Ground.phase }, { on := 2, ground := Ground.phase }, { on := 3, ground := Ground.phase }, { on := 4, ground := Ground.phase }, { on := 5, ground := Ground.phase }, { on := 6, ground := Ground.phase }, { on := 7, ground := Ground.phase }, { on := 8, ground := Ground.phase }, { on := 9, ground := Ground.phase }, { on := 10, ground := Ground.phase }, { on := 11, ground := Ground.phase }, { on := 12, ground := Ground.textOnly Departure.lateStores }], guard := none }
abbrev kO14 : Oper := { dst := some 9, op := Op.assign (Operand.tmp 79), type := 33, pos := "ref.go:140", after := #[{ on := 12, ground := Ground.data }, { on := 13, ground := Ground.chain }, { on := 0, ground := Ground.phase }, { on := 1, ground := Ground.phase }, { on := 2, ground := Ground.phase }, { on := 3, ground := Ground.phase }, { on := 4, ground := Ground.phase }, { on := 5, ground := Ground.phase }, { on := 6, ground := Ground.phase }, { on := 7, ground := Ground.phase }, { on := 8, ground := Ground.phase }, { on := 9, ground := Ground.phase }, { on := 10, ground := Ground.phase }, { on := 11, ground := Ground.phase }, { on := 12, ground := Ground.phase }, { on := 13, ground := Ground.phase }], guard := none }
set_option maxRecDepth 100000 in
set_option maxHeartbeats 8000000 in
theorem rtakegone8_any (s : ByteArray) (A : Option Addr) (cap : Nat) (adds : List Int) (w : World) (hi : IntAt w A cap adds) (hs : s.size ≤ 1100000) :
    Calls Try.prog 24 #[.string s, .slice A adds.length cap] w (TGPost w (goneF s adds)) := by
  have HI := Lib.hid hi
  have HP := Lib.hid (fun w => rpair_any s w hs)
  clear hi
  by_cases h3 : s.size < 3
  · have HR : Hid (goneF s adds = .error 4) := if_pos h3
    rw [show pairR s = .tuple #[.int .i64 0, .int .i64 4] from if_pos h3] at HP
    clear h3
    go_enter Try.func24, Try.ntmps24
    go_wp2_with fail
    refine (HP.out _).mono ?_
    rintro e w1 ⟨rfl, q, hw⟩
    have HB1 := Lib.hid (below_drewN (Below.refl w.heap.size w) q)
    rw [← hw] at HB1
    clear hw HP
    go_wp2_with fail
    go_ret3
    exact TGPost.no HR.out rfl HB1.out
  by_cases hf : pairF s = 0
  · have HR : Hid (goneF s adds = .error 5) := (if_neg h3).trans (if_pos hf)
    rw [show pairR s = .tuple #[.int .i64 0, .int .i64 5] from (if_neg h3).trans (if_pos hf)] at HP
    clear h3 hf
    go_enter Try.func24, Try.ntmps24
    go_wp2_with fail
    refine (HP.out _).mono ?_
    rintro e w1 ⟨rfl, q, hw⟩
    have HB1 := Lib.hid (below_drewN (Below.refl w.heap.size w) q)
    rw [← hw] at HB1
    clear hw HP
    go_wp2_with fail
    go_ret3
    exact TGPost.no HR.out rfl HB1.out
  have hg : goneF s adds = match decAll (pairF s) (hasI adds (pairF s)) (restF s) with | none => .error 4 | some L => .ok (pairF s, L) := by
    unfold goneF
    rw [if_neg h3, if_neg hf]
    cases decAll (pairF s) (hasI adds (pairF s)) (restF s) <;> rfl
  rw [show pairR s = .tuple #[.int .i64 (pairF s), .int .i64 0] from (if_neg h3).trans (if_neg hf)] at HP
  have hin := pairF_in s
  obtain ⟨f1, f2⟩ : 1 ≤ pairF s ∧ pairF s ≤ 5 := by
    rcases hin with h | h
    · exact absurd h hf
    · exact h
  rw [restF_eq] at hg
  have hsz : (s.extract 3 s.size).size ≤ 1100000 := by rw [ByteArray.size_extract]; omega
  have h3i : (3 : Int) ≤ s.size := by omega
  have h3n : 3 ≤ s.size := by omega
  clear h3 hf hin
  generalize pairF s = f at HP hg f1 f2
  have HD := Lib.hid (fun V => rdecode_any (s.extract 3 s.size) f (hasI adds f) V f1 f2 hsz)
  obtain ⟨bb, hbb⟩ : ∃ bb, hasI adds f = bb := ⟨_, rfl⟩
  have HBB := Lib.hid hbb
  rw [hbb] at HD hg
  clear hbb f1 f2
  cases hd : decAll f bb (s.extract 3 s.size) with
  | none =>
    rw [hd] at hg
    have HG := Lib.hid hg
    have HDD := Lib.hid hd
    clear hg hd
    go_enter Try.func24, Try.ntmps24
    go_wp2_with fail
    refine (HP.out _).mono ?_
    rintro e w1 ⟨rfl, q, hw⟩
    have HB1 := Lib.hid (below_drewN (Below.refl w.heap.size w) q)
    rw [← hw] at HB1
    clear hw HP
    have HI1 := Lib.hid (HI.out.below HB1.out (Nat.le_refl _))
    go_wp2_with fail
    refine wp_region_held_drew (S := fun w' => Below w1.heap.size w1 w') (by kernel_rfl) (below_drewN (Below.refl _ _) 1) (fun hHeld => ?_)
    refine wpAnyH_take (i := 0) (oi := gO0) (v := ?_) rfl (by kernel_rfl) (by kernel_rfl) (by kernel_rfl) (fun _ _ _ h => h) (Or.inl ⟨by rfl, ?_⟩) hHeld ?_
    rotate_left
    · intro w hSw
      clear hSw
      try dsimp only [gO0]
      go_simp
      try with_reducible rfl
    try simp only [gO0, Act.put, List.setIfInBounds_toArray, List.set_cons_zero, List.set_cons_succ]
    refine wpAnyH_take (i := 1) (oi := gO1) (v := .string (s.extract 3 s.size)) rfl (by kernel_rfl) (by kernel_rfl) (by kernel_rfl) (fun _ _ _ h => h) (Or.inl ⟨by rfl, ?_⟩) hHeld ?_
    · intro w hSw
      clear hSw
      try dsimp only [gO1]
      go_simp
      try rfl
    try simp only [gO1, Act.put, List.setIfInBounds_toArray, List.set_cons_zero, List.set_cons_succ]
    refine wpAnyH_take (i := 2) (oi := gO2) (v := ?_) rfl (by kernel_rfl) (by kernel_rfl) (by kernel_rfl) (fun _ _ _ h => h) (Or.inl ⟨by rfl, ?_⟩) hHeld ?_
    rotate_left
    · intro w hSw
      clear hSw
      try dsimp only [gO2]
      go_simp
      try with_reducible rfl
    try simp only [gO2, Act.put, List.setIfInBounds_toArray, List.set_cons_zero, List.set_cons_succ]
    refine wpAnyH_take (i := 3) (oi := gO3) (v := ?_) rfl (by kernel_rfl) (by kernel_rfl) (by kernel_rfl) (fun _ _ _ h => h) (Or.inl ⟨by rfl, ?_⟩) hHeld ?_
    rotate_left
    · intro w hSw
      clear hSw
      try dsimp only [gO3]
      go_simp
      try with_reducible rfl
    try simp only [gO3, Act.put, List.setIfInBounds_toArray, List.set_cons_zero, List.set_cons_succ]
    refine wpAnyH_take (i := 4) (oi := gO4) (v := ?_) rfl (by kernel_rfl) (by kernel_rfl) (by kernel_rfl) (fun _ _ _ h => h) (Or.inl ⟨by rfl, ?_⟩) hHeld ?_
    rotate_left
    · intro w hSw
      clear hSw
      try dsimp only [gO4]
      go_simp
      try with_reducible rfl
    try simp only [gO4, Act.put, List.setIfInBounds_toArray, List.set_cons_zero, List.set_cons_succ]
    refine wpAnyH_ready (rs := [5]) (by as_aux_lemma => kernel_rfl) (by simp) ?_
    refine AllReadyH.cons (o := gO5) rfl (fun K hK => ?_) AllReadyH.nil
    dsimp only [gO5]
    go_simp
    refine (rhas_any A cap adds f _ (HI1.out.below hHeld (Nat.le_refl _))).mono ?_
    rintro e u1 ⟨rfl, hw⟩
    rw [hw]
    clear hw
    rw [HBB.out]
    go_wp2_with fail
    refine hK.out _ _ hHeld (fun hHeld => ?_)
    clear hK K
    try simp only [Act.put, List.setIfInBounds_toArray, List.set_cons_zero, List.set_cons_succ]
    refine wpAnyH_ready (rs := [6]) (by as_aux_lemma => kernel_rfl) (by simp) ?_
    refine AllReadyH.cons (o := gO6) rfl (fun K hK => ?_) AllReadyH.nil
    dsimp only [gO6]
    go_simp
    refine (HD.out _).mono ?_
    rintro e u2 ⟨hb, hm⟩
    rw [HDD.out] at hm
    obtain rfl : e = _ := hm
    go_wp2_with fail
    refine hK.out _ _ (hHeld.trans (hb.mono hHeld.size)) (fun hHeld => ?_)
    clear hK K
    have hv2 : Below w1.heap.size w1 u2 := (below_drewN (Below.refl w1.heap.size w1) 1).trans hb
    refine wpAnyH_more (S' := fun w' => Below u2.heap.size u2 w') (fun _ h => hHeld.trans (h.mono hHeld.size)) _ _ _ _ ?_
    clear hHeld hb
    have hHeld : Below u2.heap.size u2 u2 := (Below.refl _ _)
    try simp only [Act.put, List.setIfInBounds_toArray, List.set_cons_zero, List.set_cons_succ]
    refine wpAnyH_take (i := 7) (oi := gO7) (v := ?_) rfl (by kernel_rfl) (by kernel_rfl) (by kernel_rfl) (fun _ _ _ h => h) (Or.inl ⟨by rfl, ?_⟩) hHeld ?_
    rotate_left
    · intro w hSw
      clear hSw
      try dsimp only [gO7]
      go_simp
      try with_reducible rfl
    try simp only [gO7, Act.put, List.setIfInBounds_toArray, List.set_cons_zero, List.set_cons_succ]
    refine wpAnyH_take (i := 8) (oi := gO8) (v := ?_) rfl (by kernel_rfl) (by kernel_rfl) (by kernel_rfl) (fun _ _ _ h => h) (Or.inl ⟨by rfl, ?_⟩) hHeld ?_
    rotate_left
    · intro w hSw
      clear hSw
      try dsimp only [gO8]
      go_simp
      try with_reducible rfl
    try simp only [gO8, Act.put, List.setIfInBounds_toArray, List.set_cons_zero, List.set_cons_succ]
    refine wpAnyH_take (i := 9) (oi := gO9) (v := ?_) rfl (by kernel_rfl) (by kernel_rfl) (by kernel_rfl) (fun _ _ _ h => h) (Or.inl ⟨by rfl, ?_⟩) hHeld ?_
    rotate_left
    · intro w hSw
      clear hSw
      try dsimp only [gO9]
      go_simp
      try with_reducible rfl
    try simp only [gO9, Act.put, List.setIfInBounds_toArray, List.set_cons_zero, List.set_cons_succ]
    refine wpAnyH_take (i := 10) (oi := gO10) (v := ?_) rfl (by kernel_rfl) (by kernel_rfl) (by kernel_rfl) (fun _ _ _ h => h) (Or.inl ⟨by rfl, ?_⟩) hHeld ?_
    rotate_left
    · intro w hSw
      clear hSw
      try dsimp only [gO10]
      go_simp
      try with_reducible rfl
    try simp only [gO10, Act.put, List.setIfInBounds_toArray, List.set_cons_zero, List.set_cons_succ]
    refine wpAnyH_take (i := 11) (oi := gO11) (v := ?_) rfl (by kernel_rfl) (by kernel_rfl) (by kernel_rfl) (fun _ _ _ h => h) (Or.inl ⟨by rfl, ?_⟩) hHeld ?_
    rotate_left
    · intro w hSw
      clear hSw
      try dsimp only [gO11]
      go_simp
      try with_reducible rfl
    try simp only [gO11, Act.put, List.setIfInBounds_toArray, List.set_cons_zero, List.set_cons_succ]
    refine wpAnyH_done (by as_aux_lemma => kernel_rfl) ?_ _
    have HB9 := Lib.hid (HB1.out.trans (hv2.mono HB1.out.size))
    clear hHeld
    go_wp2_with fail
    go_ret3
    exact TGPost.no HG.out rfl HB9.out
  | some L =>
    rw [hd] at hg
    have HG := Lib.hid hg
    have HDD := Lib.hid hd
    clear hg hd
    go_enter Try.func24, Try.ntmps24
    go_wp2_with fail
    refine (HP.out _).mono ?_
    rintro e w1 ⟨rfl, q, hw⟩
    have HB1 := Lib.hid (below_drewN (Below.refl w.heap.size w) q)
    rw [← hw] at HB1
    clear hw HP
    have HI1 := Lib.hid (HI.out.below HB1.out (Nat.le_refl _))
    go_wp2_with fail
    refine wp_region_held_drew (S := fun w' => Below w1.heap.size w1 w') (by kernel_rfl) (below_drewN (Below.refl _ _) 1) (fun hHeld => ?_)
    refine wpAnyH_take (i := 0) (oi := gO0) (v := ?_) rfl (by kernel_rfl) (by kernel_rfl) (by kernel_rfl) (fun _ _ _ h => h) (Or.inl ⟨by rfl, ?_⟩) hHeld ?_
    rotate_left
    · intro w hSw
      clear hSw
      try dsimp only [gO0]
      go_simp
      try with_reducible rfl
    try simp only [gO0, Act.put, List.setIfInBounds_toArray, List.set_cons_zero, List.set_cons_succ]
    refine wpAnyH_take (i := 1) (oi := gO1) (v := .string (s.extract 3 s.size)) rfl (by kernel_rfl) (by kernel_rfl) (by kernel_rfl) (fun _ _ _ h => h) (Or.inl ⟨by rfl, ?_⟩) hHeld ?_
    · intro w hSw
      clear hSw
      try dsimp only [gO1]
      go_simp
      try rfl
    try simp only [gO1, Act.put, List.setIfInBounds_toArray, List.set_cons_zero, List.set_cons_succ]
    refine wpAnyH_take (i := 2) (oi := gO2) (v := ?_) rfl (by kernel_rfl) (by kernel_rfl) (by kernel_rfl) (fun _ _ _ h => h) (Or.inl ⟨by rfl, ?_⟩) hHeld ?_
    rotate_left
    · intro w hSw
      clear hSw
      try dsimp only [gO2]
      go_simp
      try with_reducible rfl
    try simp only [gO2, Act.put, List.setIfInBounds_toArray, List.set_cons_zero, List.set_cons_succ]
    refine wpAnyH_take (i := 3) (oi := gO3) (v := ?_) rfl (by kernel_rfl) (by kernel_rfl) (by kernel_rfl) (fun _ _ _ h => h) (Or.inl ⟨by rfl, ?_⟩) hHeld ?_
    rotate_left
    · intro w hSw
      clear hSw
      try dsimp only [gO3]
      go_simp
      try with_reducible rfl
    try simp only [gO3, Act.put, List.setIfInBounds_toArray, List.set_cons_zero, List.set_cons_succ]
    refine wpAnyH_take (i := 4) (oi := gO4) (v := ?_) rfl (by kernel_rfl) (by kernel_rfl) (by kernel_rfl) (fun _ _ _ h => h) (Or.inl ⟨by rfl, ?_⟩) hHeld ?_
    rotate_left
    · intro w hSw
      clear hSw
      try dsimp only [gO4]
      go_simp
      try with_reducible rfl
    try simp only [gO4, Act.put, List.setIfInBounds_toArray, List.set_cons_zero, List.set_cons_succ]
    refine wpAnyH_ready (rs := [5]) (by as_aux_lemma => kernel_rfl) (by simp) ?_
    refine AllReadyH.cons (o := gO5) rfl (fun K hK => ?_) AllReadyH.nil
    dsimp only [gO5]
    go_simp
    refine (rhas_any A cap adds f _ (HI1.out.below hHeld (Nat.le_refl _))).mono ?_
    rintro e u1 ⟨rfl, hw⟩
    rw [hw]
    clear hw
    rw [HBB.out]
    go_wp2_with fail
    refine hK.out _ _ hHeld (fun hHeld => ?_)
    clear hK K
    try simp only [Act.put, List.setIfInBounds_toArray, List.set_cons_zero, List.set_cons_succ]
    refine wpAnyH_ready (rs := [6]) (by as_aux_lemma => kernel_rfl) (by simp) ?_
    refine AllReadyH.cons (o := gO6) rfl (fun K hK => ?_) AllReadyH.nil
    dsimp only [gO6]
    go_simp
    refine (HD.out _).mono ?_
    rintro e u2 ⟨hb, hm⟩
    rw [HDD.out] at hm
    obtain ⟨v, rfl, ho⟩ := hm
    obtain ⟨A2, c2, rfl⟩ := OwnM.form ho
    go_wp2_with fail
    refine hK.out _ _ (hHeld.trans (hb.mono hHeld.size)) (fun hHeld => ?_)
    clear hK K
    have hv2 : Below w1.heap.size w1 u2 := (below_drewN (Below.refl w1.heap.size w1) 1).trans hb
    refine wpAnyH_more (S' := fun w' => Below u2.heap.size u2 w') (fun _ h => hHeld.trans (h.mono hHeld.size)) _ _ _ _ ?_
    clear hHeld hb
    have hHeld : Below u2.heap.size u2 u2 := (Below.refl _ _)
    try simp only [Act.put, List.setIfInBounds_toArray, List.set_cons_zero, List.set_cons_succ]
    refine wpAnyH_take (i := 7) (oi := gO7) (v := ?_) rfl (by kernel_rfl) (by kernel_rfl) (by kernel_rfl) (fun _ _ _ h => h) (Or.inl ⟨by rfl, ?_⟩) hHeld ?_
    rotate_left
    · intro w hSw
      clear hSw
      try dsimp only [gO7]
      go_simp
      try with_reducible rfl
    try simp only [gO7, Act.put, List.setIfInBounds_toArray, List.set_cons_zero, List.set_cons_succ]
    refine wpAnyH_take (i := 8) (oi := gO8) (v := ?_) rfl (by kernel_rfl) (by kernel_rfl) (by kernel_rfl) (fun _ _ _ h => h) (Or.inl ⟨by rfl, ?_⟩) hHeld ?_
    rotate_left
    · intro w hSw
      clear hSw
      try dsimp only [gO8]
      go_simp
      try with_reducible rfl
    try simp only [gO8, Act.put, List.setIfInBounds_toArray, List.set_cons_zero, List.set_cons_succ]
    refine wpAnyH_take (i := 9) (oi := gO9) (v := ?_) rfl (by kernel_rfl) (by kernel_rfl) (by kernel_rfl) (fun _ _ _ h => h) (Or.inl ⟨by rfl, ?_⟩) hHeld ?_
    rotate_left
    · intro w hSw
      clear hSw
      try dsimp only [gO9]
      go_simp
      try with_reducible rfl
    try simp only [gO9, Act.put, List.setIfInBounds_toArray, List.set_cons_zero, List.set_cons_succ]
    refine wpAnyH_take (i := 10) (oi := gO10) (v := ?_) rfl (by kernel_rfl) (by kernel_rfl) (by kernel_rfl) (fun _ _ _ h => h) (Or.inl ⟨by rfl, ?_⟩) hHeld ?_
    rotate_left
    · intro w hSw
      clear hSw
      try dsimp only [gO10]
      go_simp
      try with_reducible rfl
    try simp only [gO10, Act.put, List.setIfInBounds_toArray, List.set_cons_zero, List.set_cons_succ]
    refine wpAnyH_take (i := 11) (oi := gO11) (v := ?_) rfl (by kernel_rfl) (by kernel_rfl) (by kernel_rfl) (fun _ _ _ h => h) (Or.inl ⟨by rfl, ?_⟩) hHeld ?_
    rotate_left
    · intro w hSw
      clear hSw
      try dsimp only [gO11]
      go_simp
      try with_reducible rfl
    try simp only [gO11, Act.put, List.setIfInBounds_toArray, List.set_cons_zero, List.set_cons_succ]
    refine wpAnyH_done (by as_aux_lemma => kernel_rfl) ?_ _
    have HB9 := Lib.hid (HB1.out.trans (hv2.mono HB1.out.size))
    have HO9 := Lib.hid (NlOwn.low ho (show w.heap.size ≤ w1.heap.size from HB1.out.size))
    clear hHeld ho
    go_wp2_with fail
    go_ret3
    exact TGPost.yes HG.out rfl HO9.out HB9.out

end Go.Proofs.Ytocbacpbckejdaa
