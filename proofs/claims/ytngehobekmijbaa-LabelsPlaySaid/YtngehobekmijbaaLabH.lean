/-
  Labels: contract of Copy. Conditions: none.
-/
import Derived.Test.YtngehobekmijbaaLabG
import Derived.Test.YtngehobekmijbaaMapsR
import Derived.LoopTactic
set_option linter.unusedVariables false
set_option linter.unusedSimpArgs false
namespace Go.Proofs.Ytngehobekmijbaa
open Go.RowKit Go.MapKept
open Go.Maps (Keyed)

theorem RangeAt.left_eq {P : Program} {K : TypeId} {w : World} {b r : Nat} {L left : List (Value × Value)} (h : RangeAt P K w b r L left) : w.rangeLeft b r = left.length := by
  obtain ⟨es, clock, since, seen, c0, hb, hs, hk, rfl, hr, h1, h2, h3, rfl⟩ := h
  simp only [World.rangeLeft, hb, hr, leftP, List.length_map]
  unfold leftOf
  rw [← Array.length_toList, Array.toList_filter]
theorem ofL_back {S : List (LK × Nat)} {i : Nat} {key v : Value} (h : (ofL S)[i]? = some (key, v)) : ∃ k n, S[i]? = some (k, n) ∧ key = k.v ∧ v = .int .u32 (n : Nat) := by
  unfold ofL at h
  rw [List.getElem?_map] at h
  cases hs : S[i]? with
  | none => rw [hs] at h; cases h
  | some p =>
    rw [hs] at h
    simp only [Option.map_some, Option.some.injEq, Prod.mk.injEq] at h
    exact ⟨p.1, p.2, rfl, h.1.symm, h.2.symm⟩
theorem perm_eraseIdx {α : Type} : ∀ (l : List α) (i : Nat) (x : α), l[i]? = some x → (x :: l.eraseIdx i).Perm l
  | [], _, _, h => by simp at h
  | a :: r, 0, x, h => by
    simp at h
    subst h
    exact List.Perm.refl _
  | a :: r, i + 1, x, h => by
    simp only [List.getElem?_cons_succ] at h
    rw [List.eraseIdx_cons_succ]
    exact (List.Perm.swap a x _).trans ((perm_eraseIdx r i x h).cons a)
/-- a copy -/
def CopyPost (w : World) (low high : Nat) (S : List (LK × Nat)) (e : Ending) (w' : World) : Prop :=
  ∃ S', S'.Perm S ∧ e = .returned (.pointer (some ⟨w.heap.size + 2, 0, none⟩)) ∧ LabAt w' (w.heap.size + 2) w.heap.size (w.heap.size + 1) low high S' ∧ Below w.heap.size w w'

set_option maxRecDepth 100000 in
set_option maxHeartbeats 4000000 in
theorem copy_any (w : World) (b m1 m2 low high : Nat) (S : List (LK × Nat)) (h : LabAt w b m1 m2 low high S) :
    Calls Try.prog 19 #[.pointer (some ⟨b, 0, none⟩)] w (CopyPost w low high S) := by
  have hlo := h.lo
  have hlh := h.lh
  have hhi := h.hi
  have hkeys := Lib.hid h.keys
  have hlabs := Lib.hid h.labels
  obtain ⟨l0, l1, l2⟩ := h.lt
  obtain ⟨c0, c1, c2, c3⟩ := h.c
  have HL := Lib.hid h
  have HC := Lib.hid h.cells
  clear h
  go_enter Try.func19, Try.ntmps19
  go_wp2_with fail
  refine (none_any b m1 _ c2).mono ?_
  rintro e w1 ⟨rfl, hw1⟩
  have hw1 := hw1
  subst hw1
  clear c0 c1 c2 c3
  go_wp2_with fail
  refine wp_region_held_drew (S := fun w' => CellsAt w' b #[.int .u32 low, .int .u32 high, .map (some m1), .map (some m2)] 60) (by kernel_rfl) (HC.out.drew 1) (fun hHeld => ?_)
  refine wpAnyH_take (i := 0) (oi := { dst := some 10, op := Op.move (Operand.tmp 0), type := 23, pos := "label.go:102", after := #[], guard := none }) (v := ?_) rfl (by kernel_rfl) (by kernel_rfl) (by kernel_rfl) (fun _ _ _ h => h) (Or.inl ⟨by rfl, ?_⟩) hHeld ?_
  rotate_left
  · intro w hSw
    clear hSw
    go_simp
    try with_reducible rfl
  try simp only [Act.put, List.setIfInBounds_toArray, List.set_cons_zero, List.set_cons_succ]
  refine wpAnyH_take (i := 1) (oi := { dst := some 11, op := Op.nilCheck (Operand.tmp 10), type := 0, pos := "label.go:102", after := #[{ on := 0, ground := Ground.data }], guard := none }) (v := ?_) rfl (by kernel_rfl) (by kernel_rfl) (by kernel_rfl) (fun _ _ _ h => h) (Or.inl ⟨by rfl, ?_⟩) hHeld ?_
  rotate_left
  · intro w hSw
    clear hSw
    go_simp
    try with_reducible rfl
  try simp only [Act.put, List.setIfInBounds_toArray, List.set_cons_zero, List.set_cons_succ]
  refine wpAnyH_take (i := 2) (oi := { dst := some 12, op := Op.fieldAddr 60 (Operand.tmp 11) 0, type := 0, pos := "label.go:102", after := #[{ on := 1, ground := Ground.data }], guard := none }) (v := ?_) rfl (by kernel_rfl) (by kernel_rfl) (by kernel_rfl) (fun _ _ _ h => h) (Or.inl ⟨by rfl, ?_⟩) hHeld ?_
  rotate_left
  · intro w hSw
    clear hSw
    go_simp
    try with_reducible rfl
  try simp only [Act.put, List.setIfInBounds_toArray, List.set_cons_zero, List.set_cons_succ]
  refine wpAnyH_take (i := 3) (oi := { dst := some 13, op := Op.load 27 (Operand.tmp 12), type := 27, pos := "label.go:102", after := #[{ on := 2, ground := Ground.data }], guard := none }) (v := ?_) rfl (by kernel_rfl) (by kernel_rfl) (by kernel_rfl) (fun _ _ _ h => h) (Or.inl ⟨by rfl, ?_⟩) hHeld ?_
  rotate_left
  · intro w hSw
    obtain ⟨c0, c1, c2, c3⟩ := CellsAt.c4 hSw
    go_simp
    try with_reducible rfl
  try simp only [Act.put, List.setIfInBounds_toArray, List.set_cons_zero, List.set_cons_succ]
  refine wpAnyH_take (i := 4) (oi := { dst := some 14, op := Op.move (Operand.tmp 0), type := 23, pos := "label.go:102", after := #[], guard := none }) (v := ?_) rfl (by kernel_rfl) (by kernel_rfl) (by kernel_rfl) (fun _ _ _ h => h) (Or.inl ⟨by rfl, ?_⟩) hHeld ?_
  rotate_left
  · intro w hSw
    clear hSw
    go_simp
    try with_reducible rfl
  try simp only [Act.put, List.setIfInBounds_toArray, List.set_cons_zero, List.set_cons_succ]
  refine wpAnyH_take (i := 5) (oi := { dst := some 15, op := Op.nilCheck (Operand.tmp 14), type := 0, pos := "label.go:102", after := #[{ on := 4, ground := Ground.data }], guard := none }) (v := ?_) rfl (by kernel_rfl) (by kernel_rfl) (by kernel_rfl) (fun _ _ _ h => h) (Or.inl ⟨by rfl, ?_⟩) hHeld ?_
  rotate_left
  · intro w hSw
    clear hSw
    go_simp
    try with_reducible rfl
  try simp only [Act.put, List.setIfInBounds_toArray, List.set_cons_zero, List.set_cons_succ]
  refine wpAnyH_take (i := 6) (oi := { dst := some 16, op := Op.fieldAddr 60 (Operand.tmp 15) 1, type := 0, pos := "label.go:102", after := #[{ on := 5, ground := Ground.data }], guard := none }) (v := ?_) rfl (by kernel_rfl) (by kernel_rfl) (by kernel_rfl) (fun _ _ _ h => h) (Or.inl ⟨by rfl, ?_⟩) hHeld ?_
  rotate_left
  · intro w hSw
    clear hSw
    go_simp
    try with_reducible rfl
  try simp only [Act.put, List.setIfInBounds_toArray, List.set_cons_zero, List.set_cons_succ]
  refine wpAnyH_take (i := 7) (oi := { dst := some 17, op := Op.load 27 (Operand.tmp 16), type := 27, pos := "label.go:102", after := #[{ on := 6, ground := Ground.data }], guard := none }) (v := ?_) rfl (by kernel_rfl) (by kernel_rfl) (by kernel_rfl) (fun _ _ _ h => h) (Or.inl ⟨by rfl, ?_⟩) hHeld ?_
  rotate_left
  · intro w hSw
    obtain ⟨c0, c1, c2, c3⟩ := CellsAt.c4 hSw
    go_simp
    try with_reducible rfl
  try simp only [Act.put, List.setIfInBounds_toArray, List.set_cons_zero, List.set_cons_succ]
  refine wpAnyH_ready (rs := [8]) (by kernel_rfl) (by simp) ?_
  refine AllReadyH.cons (o := { dst := some 18, op := Op.call { callee := Callee.value (Operand.func 8), args := #[Operand.tmp 13, Operand.tmp 17], argTypes := #[27, 27] }, type := 25, pos := "label.go:102", after := #[{ on := 3, ground := Ground.data }, { on := 7, ground := Ground.data }], guard := none }) rfl (fun K hK => ?_) AllReadyH.nil
  go_simp
  refine (new_ok low high _ hlo hlh hhi).mono ?_
  rintro e w2 ⟨rfl, hl, hb, hz⟩
  go_wp2_with fail
  refine hK.out _ _ (CellsAt.below hHeld hb HC.out.lt) (fun hHeld => ?_)
  clear hK K
  try simp only [Act.put, List.setIfInBounds_toArray, List.set_cons_zero, List.set_cons_succ]
  refine wpAnyH_take (i := 9) (oi := { dst := some 9, op := Op.move (Operand.tmp 18), type := 25, pos := "label.go:102", after := #[{ on := 8, ground := Ground.data }], guard := none }) (v := ?_) rfl (by kernel_rfl) (by kernel_rfl) (by kernel_rfl) (fun _ _ _ h => h) (Or.inl ⟨by rfl, ?_⟩) hHeld ?_
  rotate_left
  · intro w hSw
    clear hSw
    go_simp
    try with_reducible rfl
  try simp only [Act.put, List.setIfInBounds_toArray, List.set_cons_zero, List.set_cons_succ]
  refine wpAnyH_take (i := 10) (oi := { dst := some 19, op := Op.extract (Operand.tmp 9) 0, type := 23, pos := "label.go:102", after := #[{ on := 9, ground := Ground.data }], guard := none }) (v := ?_) rfl (by kernel_rfl) (by kernel_rfl) (by kernel_rfl) (fun _ _ _ h => h) (Or.inl ⟨by rfl, ?_⟩) hHeld ?_
  rotate_left
  · intro w hSw
    clear hSw
    go_simp
    try with_reducible rfl
  try simp only [Act.put, List.setIfInBounds_toArray, List.set_cons_zero, List.set_cons_succ]
  refine wpAnyH_take (i := 11) (oi := { dst := some 20, op := Op.extract (Operand.tmp 9) 1, type := 24, pos := "label.go:102", after := #[{ on := 9, ground := Ground.data }, { on := 12, ground := Ground.gcOnly Departure.lateStores }], guard := none }) (v := ?_) rfl (by kernel_rfl) (by kernel_rfl) (by kernel_rfl) (fun _ _ _ h => h) (Or.inl ⟨by rfl, ?_⟩) hHeld ?_
  rotate_left
  · intro w hSw
    clear hSw
    go_simp
    try with_reducible rfl
  try simp only [Act.put, List.setIfInBounds_toArray, List.set_cons_zero, List.set_cons_succ]
  refine wpAnyH_take (i := 12) (oi := { dst := some 3, op := Op.assign (Operand.tmp 19), type := 23, pos := "label.go:102", after := #[{ on := 10, ground := Ground.data }, { on := 8, ground := Ground.chain }, { on := 0, ground := Ground.phase }, { on := 1, ground := Ground.phase }, { on := 2, ground := Ground.phase }, { on := 3, ground := Ground.phase }, { on := 4, ground := Ground.phase }, { on := 5, ground := Ground.phase }, { on := 6, ground := Ground.phase }, { on := 7, ground := Ground.phase }, { on := 8, ground := Ground.phase }, { on := 9, ground := Ground.phase }, { on := 10, ground := Ground.phase }, { on := 11, ground := Ground.textOnly Departure.lateStores }], guard := none }) (v := ?_) rfl (by kernel_rfl) (by kernel_rfl) (by kernel_rfl) (fun _ _ _ h => h) (Or.inl ⟨by rfl, ?_⟩) hHeld ?_
  rotate_left
  · intro w hSw
    clear hSw
    go_simp
    try with_reducible rfl
  try simp only [Act.put, List.setIfInBounds_toArray, List.set_cons_zero, List.set_cons_succ]
  refine wpAnyH_take (i := 13) (oi := { dst := some 4, op := Op.assign (Operand.tmp 20), type := 24, pos := "label.go:102", after := #[{ on := 11, ground := Ground.data }, { on := 12, ground := Ground.chain }, { on := 0, ground := Ground.phase }, { on := 1, ground := Ground.phase }, { on := 2, ground := Ground.phase }, { on := 3, ground := Ground.phase }, { on := 4, ground := Ground.phase }, { on := 5, ground := Ground.phase }, { on := 6, ground := Ground.phase }, { on := 7, ground := Ground.phase }, { on := 8, ground := Ground.phase }, { on := 9, ground := Ground.phase }, { on := 10, ground := Ground.phase }, { on := 11, ground := Ground.phase }, { on := 12, ground := Ground.phase }], guard := none }) (v := ?_) rfl (by kernel_rfl) (by kernel_rfl) (by kernel_rfl) (fun _ _ _ h => h) (Or.inl ⟨by rfl, ?_⟩) hHeld ?_
  rotate_left
  · intro w hSw
    clear hSw
    go_simp
    try with_reducible rfl
  try simp only [Act.put, List.setIfInBounds_toArray, List.set_cons_zero, List.set_cons_succ]
  refine wpAnyH_done (by kernel_rfl) ?_ _
  have HL1 := Lib.hid ((HL.out.drew 1).below hb (Nat.le_refl _))
  have HN1 : Hid (LabAt w2 (w1.heap.size + 2) w1.heap.size (w1.heap.size + 1) low high []) := hl
  have HB1 : Hid (Below w1.heap.size w1 w2) := (below_drewN (Below.refl _ _) 1).trans hb
  have hz1 : w2.heap.size = w1.heap.size + 3 := hz
  clear hHeld hl hb hz HL HC
  obtain ⟨c0, c1, c2, c3⟩ := HL1.out.c
  obtain ⟨w3, hrun, hrg, hb, hz3⟩ := HL1.out.of.range (t := 57) Try.underlying57
  have HR3 := Lib.hid hrg
  have HL3 := Lib.hid (HL1.out.below hb (Nat.le_refl _))
  have HN3 := Lib.hid (HN1.out.below hb (Nat.le_refl _))
  have HB3 := Lib.hid (HB1.out.trans (hb.mono HB1.out.size))
  clear hrg hb HN1 HB1 HL1
  go_wp2_with fail
  clear hrun c0 c1 c2 c3
  rw [hz1] at HR3
  go_loopw [6] (fun _ wr => ∃ S1 SL, Hid (LabAt wr b m1 m2 low high S) ∧ Hid (LabAt wr (w1.heap.size + 2) w1.heap.size (w1.heap.size + 1) low high S1) ∧ Hid (RangeAt Try.prog 34 wr m1 (w1.heap.size + 3) (ofL S) (ofL SL)) ∧ Hid ((S1 ++ SL).Perm S) ∧ Hid (Below w1.heap.size w1 wr)) (fun _ wr => wr.rangeLeft m1 (w1.heap.size + 3))
  case atStart => exact ⟨[], S, HL3.out, HN3.out, HR3.out, List.Perm.refl _, HB3.out⟩
  case round =>
    obtain ⟨S1, SL, HL, HN, HR, HP, HB⟩ := hrel
    clear HL3 HN3 HR3 HB3
    rcases HR.out.next (by omega) 0 with ⟨hnil, hrun⟩ | ⟨i, key, v, wq, hi, hrun, hrg, hgr, hzq, hent⟩
    · have hsl : SL = [] := by unfold ofL at hnil; exact List.map_eq_nil_iff.1 hnil
      subst hsl
      go_wp2_with fail
      go_ret
      exact ⟨S1, by simpa using HP.out, rfl, HN.out, HB.out⟩
    · obtain ⟨k, n, hi2, rfl, rfl⟩ := ofL_back hi
      have hkok := (HL.out.ok _ ((HP.out.mem_iff).1 (List.mem_append_right _ (List.mem_of_getElem? hi2)))).1
      have hnb := (HL.out.ok _ ((HP.out.mem_iff).1 (List.mem_append_right _ (List.mem_of_getElem? hi2)))).2
      simp only at hkok hnb
      obtain ⟨kl, hkl⟩ := lk_key k hkok
      have hn : n < 4294967296 := by omega
      have hk1 : ∀ p ∈ S1, p.1 ≠ k := fun p hp e => by
        have h1 := (HP.out.pairwise_iff (fun {_ _} (h : _ ≠ _) => Ne.symm h)).2 hkeys.out
        exact (List.pairwise_append.1 h1).2.2 p hp _ (List.mem_of_getElem? hi2) e
      have hn1 : ∀ p ∈ S1, p.2 ≠ n := fun p hp e => by
        have h1 := (HP.out.pairwise_iff (fun {_ _} (h : _ ≠ _) => Ne.symm h)).2 hlabs.out
        exact (List.pairwise_append.1 h1).2.2 p hp _ (List.mem_of_getElem? hi2) e
      have hperm : ((S1 ++ [(k, n)]) ++ SL.eraseIdx i).Perm S := by
        refine List.Perm.trans ?_ HP.out
        rw [List.append_assoc]
        refine List.Perm.append_left _ ?_
        exact perm_eraseIdx SL i (k, n) hi2
      rw [erase_of] at hrg
      have hGq : GrownX (fun j => j = w1.heap.size + 3) wr wq := GrownX.of_row hgr rfl
      have HLq := Lib.hid (HL.out.grownX hGq (fun j hj => by subst hj; omega))
      have HNq := Lib.hid (HN.out.grownX hGq (fun j hj => by subst hj; omega))
      have HRq := Lib.hid hrg
      have HBq : Hid (Below w1.heap.size w1 wq) := hGq.below HB.out (fun j hj => by omega) HB.out.size
      have hmeas : Hid ((SL.eraseIdx i).length < SL.length) := by
        show _ < _
        obtain ⟨hil, _⟩ := List.getElem?_eq_some_iff.1 hi2
        rw [List.length_eraseIdx_of_lt hil]
        omega
      have hml : Hid (wr.rangeLeft m1 (w1.heap.size + 3) = SL.length) := by
        show _ = _
        rw [HR.out.left_eq]
        simp [ofL]
      have HPM := Lib.hid hperm
      have HK1 := Lib.hid hk1
      have HN1' := Lib.hid hn1
      have HKL := Lib.hid hkl
      have HKO := Lib.hid hkok
      have hgez : w1.heap.size + 4 ≤ wr.heap.size := by have := HR.out.lt.2; omega
      rw [LK.agg] at hrun hent
      clear hi hi2 hperm hk1 hn1 hkl hkok hrg hgr hGq HP HL HN HR HB
      go_wp2_with fail
      clear hrun hent
      have HLo := Lib.hid (HLq.out.below (Below.alloc (Below.refl wq.heap.size wq) (Nat.le_refl _) (.cells #[.string k.vrf, .int .i64 k.fam, .int .u64 k.rd, .string k.addr, .int .i64 k.len] 34)) (Nat.le_refl _))
      have HLW := Lib.hid (HNq.out.below (Below.alloc (Below.refl wq.heap.size wq) (Nat.le_refl _) (.cells #[.string k.vrf, .int .i64 k.fam, .int .u64 k.rd, .string k.addr, .int .i64 k.len] 34)) (Nat.le_refl _))
      have HKW : Hid (CellsAt (wq.alloc (.cells #[.string k.vrf, .int .i64 k.fam, .int .u64 k.rd, .string k.addr, .int .i64 k.len] 34)) wr.heap.size #[.string k.vrf, .int .i64 k.fam, .int .u64 k.rd, .string k.addr, .int .i64 k.len] 34) := by
        have h := CellsAt.new wq #[.string k.vrf, .int .i64 k.fam, .int .u64 k.rd, .string k.addr, .int .i64 k.len] 34
        rw [hzq] at h
        exact h
      have HRW := Lib.hid (HRq.out.grownX (X := fun _ => False) (GrownX.of_below (Below.alloc (Below.refl wq.heap.size wq) (Nat.le_refl _) (.cells #[.string k.vrf, .int .i64 k.fam, .int .u64 k.rd, .string k.addr, .int .i64 k.len] 34))) (fun h => h) (fun h => h))
      have HBW := Lib.hid (HBq.out.alloc HBq.out.size (.cells #[.string k.vrf, .int .i64 k.fam, .int .u64 k.rd, .string k.addr, .int .i64 k.len] 34))
      clear HLq HNq HRq HBq
      have hqz : w1.heap.size + 4 ≤ wq.heap.size := by omega
      generalize wq.alloc (.cells #[.string k.vrf, .int .i64 k.fam, .int .u64 k.rd, .string k.addr, .int .i64 k.len] 34) = W at HLo HLW HKW HRW HBW ⊢
      have N1 : w1.heap.size + 2 ≠ w1.heap.size := by omega
      have N2 : w1.heap.size + 2 ≠ w1.heap.size + 1 := by omega
      have N3 : wr.heap.size ≠ w1.heap.size := by omega
      have N4 : wr.heap.size ≠ w1.heap.size + 1 := by omega
      have N6 : w1.heap.size ≠ w1.heap.size + 1 := by omega
      have hof : MapAt Try.prog 34 W.drew w1.heap.size (ofL S1) := HLW.out.of.drew 1
      have hky : MapAt Try.prog 27 W.drew (w1.heap.size + 1) (keyL S1) := HLW.out.key.drew 1
      obtain ⟨st1, W1, e1, g1, E1⟩ := hof.entry_new (t := 57) lkLaw Try.underlying57 (zero_u32 _) HKL.out (ofL_no HK1.out)
      obtain ⟨W2, e2, g2, M1⟩ := E1 W1 (.int .u32 n) rfl
      have hm2 : MapAt Try.prog 27 W2 (w1.heap.size + 1) (keyL S1) := (hky.grownBy g1 (fun e => N6 (by injection e with e; exact e.symm))).grownBy g2 (fun e => N6 (by injection e with e; exact e.symm))
      obtain ⟨st2, W3, e3, g3, E3⟩ := hm2.entry_new (t := 58) u32Law Try.underlying58 (zero_lk _) (u32_key n hn) (keyL_no HN1'.out)
      obtain ⟨W4, e4, g4, M2⟩ := E3 W3 (.agg #[.string k.vrf, .int .i64 k.fam, .int .u64 k.rd, .string k.addr, .int .i64 k.len]) rfl
      have M1' : MapAt Try.prog 34 W4 w1.heap.size (ofL (S1 ++ [(k, n)])) := by
        have h := (M1.grownBy g3 (fun e => N6 (by injection e))).grownBy g4 (fun e => N6 (by injection e))
        simpa [ofL] using h
      have M2' : MapAt Try.prog 27 W4 (w1.heap.size + 1) (keyL (S1 ++ [(k, n)])) := by
        simpa [keyL, LK.v] using M2
      have B' := (((HLW.out.cells.drew 1).row g1 N1).row g2 N1).row g3 N2 |>.row g4 N2
      have G : GrownX (fun j => j = w1.heap.size ∨ j = w1.heap.size + 1) W.drew W4 :=
        (((GrownX.of_row g1 (Or.inl rfl)).trans (GrownX.of_row g2 (Or.inl rfl))).trans (GrownX.of_row g3 (Or.inr rfl))).trans (GrownX.of_row g4 (Or.inr rfl))
      have hok : ∀ p ∈ S1 ++ [(k, n)], p.1.Ok ∧ low ≤ p.2 ∧ p.2 ≤ high := fun p hp => by
        rcases List.mem_append.1 hp with hp | hp
        · exact HLW.out.ok p hp
        · simp at hp
          subst hp
          exact ⟨HKO.out, hnb⟩
      have hF : LabAt W4 (w1.heap.size + 2) w1.heap.size (w1.heap.size + 1) low high (S1 ++ [(k, n)]) := ⟨B', M1', M2', N1, N2, N6, hok, hlo, hlh, hhi⟩
      have hLf := (HLo.out.drew 1).grownX G (fun j hj => by rcases hj with rfl | rfl <;> omega)
      have hRf : RangeAt Try.prog 34 W4 m1 (w1.heap.size + 3) (ofL S) (ofL (SL.eraseIdx i)) := RangeAt.grownX (w := W.drew) (HRW.out.keep rfl rfl) G (fun hj => by rcases hj with hj | hj <;> omega) (fun hj => by rcases hj with hj | hj <;> omega)
      have hBf : Below w1.heap.size w1 W4 := G.below (below_drewN HBW.out 1) (fun j hj => by rcases hj with rfl | rfl <;> omega) HBW.out.size
      have HF := Lib.hid hF
      have HLF := Lib.hid hLf
      have HRF := Lib.hid hRf
      have HBF := Lib.hid hBf
      rw [LK.agg] at e1
      rw [show noKey.v = .agg #[.string ByteArray.empty, .int .i64 0, .int .u64 0, .string ByteArray.empty, .int .i64 0] from rfl] at e3
      clear E1 E3 M1 M2 M1' M2' B' G hF hLf hRf hBf hm2 hof hky hok HLo HRW HBW
      refine wp_region_held_drew (S := fun w' => CellsAt w' (w1.heap.size + 2) #[.int .u32 low, .int .u32 high, .map (some w1.heap.size), .map (some (w1.heap.size + 1))] 60 ∧ CellsAt w' wr.heap.size #[.string k.vrf, .int .i64 k.fam, .int .u64 k.rd, .string k.addr, .int .i64 k.len] 34) (by kernel_rfl) (And.intro (HLW.out.cells.drew 1) (HKW.out.drew 1)) (fun hHeld => ?_)
      refine wpAnyH_take (i := 0) (oi := { dst := some 31, op := Op.move (Operand.tmp 3), type := 23, pos := "label.go:104", after := #[], guard := none }) (v := ?_) rfl (by kernel_rfl) (by kernel_rfl) (by kernel_rfl) (fun _ _ _ h => h) (Or.inl ⟨by rfl, ?_⟩) hHeld ?_
      rotate_left
      · intro w hSw
        clear hSw
        go_simp
        try with_reducible rfl
      try simp only [Act.put, List.setIfInBounds_toArray, List.set_cons_zero, List.set_cons_succ]
      refine wpAnyH_take (i := 1) (oi := { dst := some 32, op := Op.nilCheck (Operand.tmp 31), type := 0, pos := "label.go:104", after := #[{ on := 0, ground := Ground.data }], guard := none }) (v := ?_) rfl (by kernel_rfl) (by kernel_rfl) (by kernel_rfl) (fun _ _ _ h => h) (Or.inl ⟨by rfl, ?_⟩) hHeld ?_
      rotate_left
      · intro w hSw
        clear hSw
        go_simp
        try with_reducible rfl
      try simp only [Act.put, List.setIfInBounds_toArray, List.set_cons_zero, List.set_cons_succ]
      refine wpAnyH_take (i := 2) (oi := { dst := some 33, op := Op.fieldAddr 60 (Operand.tmp 32) 2, type := 0, pos := "label.go:104", after := #[{ on := 1, ground := Ground.data }], guard := none }) (v := ?_) rfl (by kernel_rfl) (by kernel_rfl) (by kernel_rfl) (fun _ _ _ h => h) (Or.inl ⟨by rfl, ?_⟩) hHeld ?_
      rotate_left
      · intro w hSw
        clear hSw
        go_simp
        try with_reducible rfl
      try simp only [Act.put, List.setIfInBounds_toArray, List.set_cons_zero, List.set_cons_succ]
      refine wpAnyH_take (i := 3) (oi := { dst := some 34, op := Op.load 57 (Operand.tmp 33), type := 57, pos := "label.go:104", after := #[{ on := 2, ground := Ground.data }], guard := none }) (v := ?_) rfl (by kernel_rfl) (by kernel_rfl) (by kernel_rfl) (fun _ _ _ h => h) (Or.inl ⟨by rfl, ?_⟩) hHeld ?_
      rotate_left
      · intro w hSw
        obtain ⟨q1, q2⟩ := hSw
        obtain ⟨c0, c1, c2, c3⟩ := q1.c4
        obtain ⟨k0, k1, k2, k3, k4⟩ := q2.c5
        go_simp
        try with_reducible rfl
      try simp only [Act.put, List.setIfInBounds_toArray, List.set_cons_zero, List.set_cons_succ]
      refine wpAnyH_take (i := 4) (oi := { dst := some 35, op := Op.load 34 (Operand.tmp 5), type := 34, pos := "label.go:104", after := #[], guard := none }) (v := ?_) rfl (by kernel_rfl) (by kernel_rfl) (by kernel_rfl) (fun _ _ _ h => h) (Or.inl ⟨by rfl, ?_⟩) hHeld ?_
      rotate_left
      · intro w hSw
        obtain ⟨q1, q2⟩ := hSw
        obtain ⟨c0, c1, c2, c3⟩ := q1.c4
        obtain ⟨k0, k1, k2, k3, k4⟩ := q2.c5
        go_simp
        try with_reducible rfl
      try simp only [Act.put, List.setIfInBounds_toArray, List.set_cons_zero, List.set_cons_succ]
      refine wpAnyH_take (i := 5) (oi := { dst := some 36, op := Op.move (Operand.tmp 3), type := 23, pos := "label.go:104", after := #[], guard := none }) (v := ?_) rfl (by kernel_rfl) (by kernel_rfl) (by kernel_rfl) (fun _ _ _ h => h) (Or.inl ⟨by rfl, ?_⟩) hHeld ?_
      rotate_left
      · intro w hSw
        clear hSw
        go_simp
        try with_reducible rfl
      try simp only [Act.put, List.setIfInBounds_toArray, List.set_cons_zero, List.set_cons_succ]
      refine wpAnyH_take (i := 6) (oi := { dst := some 37, op := Op.nilCheck (Operand.tmp 36), type := 0, pos := "label.go:104", after := #[{ on := 5, ground := Ground.data }], guard := none }) (v := ?_) rfl (by kernel_rfl) (by kernel_rfl) (by kernel_rfl) (fun _ _ _ h => h) (Or.inl ⟨by rfl, ?_⟩) hHeld ?_
      rotate_left
      · intro w hSw
        clear hSw
        go_simp
        try with_reducible rfl
      try simp only [Act.put, List.setIfInBounds_toArray, List.set_cons_zero, List.set_cons_succ]
      refine wpAnyH_take (i := 7) (oi := { dst := some 38, op := Op.fieldAddr 60 (Operand.tmp 37) 3, type := 0, pos := "label.go:104", after := #[{ on := 6, ground := Ground.data }], guard := none }) (v := ?_) rfl (by kernel_rfl) (by kernel_rfl) (by kernel_rfl) (fun _ _ _ h => h) (Or.inl ⟨by rfl, ?_⟩) hHeld ?_
      rotate_left
      · intro w hSw
        clear hSw
        go_simp
        try with_reducible rfl
      try simp only [Act.put, List.setIfInBounds_toArray, List.set_cons_zero, List.set_cons_succ]
      refine wpAnyH_take (i := 8) (oi := { dst := some 39, op := Op.load 58 (Operand.tmp 38), type := 58, pos := "label.go:104", after := #[{ on := 7, ground := Ground.data }], guard := none }) (v := ?_) rfl (by kernel_rfl) (by kernel_rfl) (by kernel_rfl) (fun _ _ _ h => h) (Or.inl ⟨by rfl, ?_⟩) hHeld ?_
      rotate_left
      · intro w hSw
        obtain ⟨q1, q2⟩ := hSw
        obtain ⟨c0, c1, c2, c3⟩ := q1.c4
        obtain ⟨k0, k1, k2, k3, k4⟩ := q2.c5
        go_simp
        try with_reducible rfl
      try simp only [Act.put, List.setIfInBounds_toArray, List.set_cons_zero, List.set_cons_succ]
      refine wpAnyH_take (i := 9) (oi := { dst := some 40, op := Op.move (Operand.tmp 6), type := 27, pos := "label.go:104", after := #[{ on := 14, ground := Ground.gcOnly Departure.lateStores }], guard := none }) (v := ?_) rfl (by kernel_rfl) (by kernel_rfl) (by kernel_rfl) (fun _ _ _ h => h) (Or.inl ⟨by rfl, ?_⟩) hHeld ?_
      rotate_left
      · intro w hSw
        clear hSw
        go_simp
        try with_reducible rfl
      try simp only [Act.put, List.setIfInBounds_toArray, List.set_cons_zero, List.set_cons_succ]
      refine wpAnyH_take (i := 10) (oi := { dst := some 41, op := Op.move (Operand.tmp 6), type := 27, pos := "label.go:104", after := #[{ on := 12, ground := Ground.gcOnly Departure.tupleMapEntryFirst }], guard := none }) (v := ?_) rfl (by kernel_rfl) (by kernel_rfl) (by kernel_rfl) (fun _ _ _ h => h) (Or.inl ⟨by rfl, ?_⟩) hHeld ?_
      rotate_left
      · intro w hSw
        clear hSw
        go_simp
        try with_reducible rfl
      try simp only [Act.put, List.setIfInBounds_toArray, List.set_cons_zero, List.set_cons_succ]
      refine wpAnyH_take (i := 11) (oi := { dst := some 42, op := Op.load 34 (Operand.tmp 5), type := 34, pos := "label.go:104", after := #[{ on := 14, ground := Ground.gcOnly Departure.lateStores }, { on := 15, ground := Ground.gcOnly Departure.tupleMapEntryFirst }], guard := none }) (v := ?_) rfl (by kernel_rfl) (by kernel_rfl) (by kernel_rfl) (fun _ _ _ h => h) (Or.inl ⟨by rfl, ?_⟩) hHeld ?_
      rotate_left
      · intro w hSw
        obtain ⟨q1, q2⟩ := hSw
        obtain ⟨c0, c1, c2, c3⟩ := q1.c4
        obtain ⟨k0, k1, k2, k3, k4⟩ := q2.c5
        go_simp
        try with_reducible rfl
      try simp only [Act.put, List.setIfInBounds_toArray, List.set_cons_zero, List.set_cons_succ]
      refine wpAnyH_ready (rs := [12]) (by kernel_rfl) (by simp) ?_
      refine AllReadyH.cons (o := { dst := some 43, op := Op.mapEntry 57 (Operand.tmp 34) (Operand.tmp 35), type := 0, pos := "label.go:104", after := #[{ on := 3, ground := Ground.data }, { on := 4, ground := Ground.data }, { on := 0, ground := Ground.textOnly Departure.tupleMapEntryFirst }, { on := 1, ground := Ground.textOnly Departure.tupleMapEntryFirst }, { on := 2, ground := Ground.textOnly Departure.tupleMapEntryFirst }, { on := 3, ground := Ground.textOnly Departure.tupleMapEntryFirst }, { on := 4, ground := Ground.textOnly Departure.lateStoresUnsure }, { on := 5, ground := Ground.textOnly Departure.lateStores }, { on := 6, ground := Ground.textOnly Departure.lateStoresUnsure }, { on := 7, ground := Ground.textOnly Departure.lateStoresUnsure }, { on := 8, ground := Ground.phase }, { on := 9, ground := Ground.textOnly Departure.lateStores }, { on := 10, ground := Ground.textOnly Departure.tupleMapEntryFirst }, { on := 11, ground := Ground.textOnly Departure.lateStores }], guard := none }) rfl (fun K hK => ?_) AllReadyH.nil
      go_simp
      skip
      refine hK.out _ _ (And.intro (hHeld.1.row g1 N1) (hHeld.2.row g1 N3)) (fun hHeld => ?_)
      clear hK K
      try simp only [Act.put, List.setIfInBounds_toArray, List.set_cons_zero, List.set_cons_succ]
      refine wpAnyH_take (i := 13) (oi := { dst := some 44, op := Op.extract (Operand.tmp 43) 1, type := 3, pos := "label.go:104", after := #[{ on := 12, ground := Ground.data }], guard := none }) (v := ?_) rfl (by kernel_rfl) (by kernel_rfl) (by kernel_rfl) (fun _ _ _ h => h) (Or.inl ⟨by rfl, ?_⟩) hHeld ?_
      rotate_left
      · intro w hSw
        clear hSw
        go_simp
        try with_reducible rfl
      try simp only [Act.put, List.setIfInBounds_toArray, List.set_cons_zero, List.set_cons_succ]
      refine wpAnyH_ready (rs := [14]) (by kernel_rfl) (by simp) ?_
      refine AllReadyH.cons (o := { dst := none, op := Op.entryStore 57 (Operand.tmp 34) (Operand.tmp 44) (Operand.tmp 41), type := 0, pos := "label.go:104", after := #[{ on := 3, ground := Ground.data }, { on := 13, ground := Ground.data }, { on := 10, ground := Ground.data }, { on := 12, ground := Ground.chain }, { on := 0, ground := Ground.phase }, { on := 1, ground := Ground.phase }, { on := 2, ground := Ground.phase }, { on := 3, ground := Ground.phase }, { on := 4, ground := Ground.phase }, { on := 5, ground := Ground.textOnly Departure.lateStores }, { on := 6, ground := Ground.textOnly Departure.lateStoresUnsure }, { on := 7, ground := Ground.textOnly Departure.lateStoresUnsure }, { on := 8, ground := Ground.phase }, { on := 9, ground := Ground.textOnly Departure.lateStores }, { on := 10, ground := Ground.phase }, { on := 11, ground := Ground.textOnly Departure.lateStores }, { on := 12, ground := Ground.phase }], guard := none }) rfl (fun K hK => ?_) AllReadyH.nil
      go_simp
      skip
      refine hK.out _ _ (And.intro (hHeld.1.row g2 N1) (hHeld.2.row g2 N3)) (fun hHeld => ?_)
      clear hK K
      try simp only [Act.put, List.setIfInBounds_toArray, List.set_cons_zero, List.set_cons_succ]
      refine wpAnyH_ready (rs := [15]) (by kernel_rfl) (by simp) ?_
      refine AllReadyH.cons (o := { dst := some 45, op := Op.mapEntry 58 (Operand.tmp 39) (Operand.tmp 40), type := 0, pos := "label.go:104", after := #[{ on := 8, ground := Ground.data }, { on := 9, ground := Ground.data }, { on := 14, ground := Ground.chain }, { on := 0, ground := Ground.phase }, { on := 1, ground := Ground.phase }, { on := 2, ground := Ground.phase }, { on := 3, ground := Ground.phase }, { on := 4, ground := Ground.phase }, { on := 5, ground := Ground.textOnly Departure.tupleMapEntryFirst }, { on := 6, ground := Ground.textOnly Departure.lateStoresUnsure }, { on := 7, ground := Ground.textOnly Departure.lateStoresUnsure }, { on := 8, ground := Ground.phase }, { on := 9, ground := Ground.textOnly Departure.tupleMapEntryFirst }, { on := 10, ground := Ground.phase }, { on := 11, ground := Ground.textOnly Departure.tupleMapEntryFirst }, { on := 12, ground := Ground.phase }, { on := 13, ground := Ground.phase }, { on := 14, ground := Ground.phase }], guard := none }) rfl (fun K hK => ?_) AllReadyH.nil
      go_simp
      skip
      refine hK.out _ _ (And.intro (hHeld.1.row g3 N2) (hHeld.2.row g3 N4)) (fun hHeld => ?_)
      clear hK K
      try simp only [Act.put, List.setIfInBounds_toArray, List.set_cons_zero, List.set_cons_succ]
      refine wpAnyH_take (i := 16) (oi := { dst := some 46, op := Op.extract (Operand.tmp 45) 1, type := 3, pos := "label.go:104", after := #[{ on := 15, ground := Ground.data }], guard := none }) (v := ?_) rfl (by kernel_rfl) (by kernel_rfl) (by kernel_rfl) (fun _ _ _ h => h) (Or.inl ⟨by rfl, ?_⟩) hHeld ?_
      rotate_left
      · intro w hSw
        clear hSw
        go_simp
        try with_reducible rfl
      try simp only [Act.put, List.setIfInBounds_toArray, List.set_cons_zero, List.set_cons_succ]
      refine wpAnyH_ready (rs := [17]) (by kernel_rfl) (by simp) ?_
      refine AllReadyH.cons (o := { dst := none, op := Op.entryStore 58 (Operand.tmp 39) (Operand.tmp 46) (Operand.tmp 42), type := 0, pos := "label.go:104", after := #[{ on := 8, ground := Ground.data }, { on := 16, ground := Ground.data }, { on := 11, ground := Ground.data }, { on := 15, ground := Ground.chain }, { on := 0, ground := Ground.phase }, { on := 1, ground := Ground.phase }, { on := 2, ground := Ground.phase }, { on := 3, ground := Ground.phase }, { on := 4, ground := Ground.phase }, { on := 5, ground := Ground.phase }, { on := 6, ground := Ground.phase }, { on := 7, ground := Ground.phase }, { on := 8, ground := Ground.phase }, { on := 9, ground := Ground.phase }, { on := 10, ground := Ground.phase }, { on := 11, ground := Ground.phase }, { on := 12, ground := Ground.phase }, { on := 13, ground := Ground.phase }, { on := 14, ground := Ground.phase }, { on := 15, ground := Ground.phase }], guard := none }) rfl (fun K hK => ?_) AllReadyH.nil
      go_simp
      skip
      refine hK.out _ _ (And.intro (hHeld.1.row g4 N2) (hHeld.2.row g4 N4)) (fun hHeld => ?_)
      clear hK K
      try simp only [Act.put, List.setIfInBounds_toArray, List.set_cons_zero, List.set_cons_succ]
      refine wpAnyH_done (by kernel_rfl) ?_ _
      clear hHeld e1 e2 e3 e4
      go_wp2_with fail
      exact ⟨⟨S1 ++ [(k, n)], SL.eraseIdx i, HLF.out, HF.out, HRF.out, HPM.out, HBF.out⟩, by rw [HRF.out.left_eq, hml.out]; simpa [ofL] using hmeas.out⟩

end Go.Proofs.Ytngehobekmijbaa
