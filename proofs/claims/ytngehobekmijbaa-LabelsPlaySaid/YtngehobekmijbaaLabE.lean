/-
  Labels: contracts of Give, of the law's key, of works. Conditions: sizes.
-/
import Derived.Test.YtngehobekmijbaaLabD
set_option linter.unusedVariables false
set_option linter.unusedSimpArgs false
namespace Go.Proofs.Ytngehobekmijbaa
open Go.RowKit Go.MapKept
open Go.Maps (Keyed)

set_option maxHeartbeats 1000000 in
theorem give_none (w : World) (b m1 m2 low high : Nat) (S : List (LK × Nat)) (k : LK) (h : LabAt w b m1 m2 low high S) (hk : k.Ok) (hj : ∀ p ∈ S, p.1 ≠ k) :
    Calls Try.prog 12 #[.pointer (some ⟨b, 0, none⟩), k.v] w fun e w' => e = .returned (.bool false) ∧ Below w.heap.size w w' := by
  obtain ⟨kl, hkl⟩ := lk_key k hk
  have lb := h.lt.1
  have hA := Below.alloc (Below.refl w.heap.size w) (Nat.le_refl _) (.cells #[.string k.vrf, .int .i64 k.fam, .int .u64 k.rd, .string k.addr, .int .i64 k.len] 34)
  have HL := Lib.hid (h.below hA (Nat.le_refl _))
  have HK := Lib.hid (CellsAt.new w #[.string k.vrf, .int .i64 k.fam, .int .u64 k.rd, .string k.addr, .int .i64 k.len] 34)
  have HA := Lib.hid hA
  have HJ := Lib.hid hj
  have HKL := Lib.hid hkl
  have HKO := Lib.hid hk
  clear hA hj hkl hk h
  unfold LK.v
  generalize hw0 : w.alloc (.cells #[.string k.vrf, .int .i64 k.fam, .int .u64 k.rd, .string k.addr, .int .i64 k.len] 34) = w0 at HL HK HA
  have hz0 : w0.heap.size = w.heap.size + 1 := by rw [← hw0]; simp
  obtain ⟨c0, c1, c2, c3⟩ := HL.out.c
  obtain ⟨k0, k1, k2, k3, k4⟩ := HK.out.c5
  go_enter Try.func12, Try.ntmps12
  go_wp2_with fail
  clear hw0
  refine (none_any b m1 _ c2).mono ?_
  rintro e w1 ⟨rfl, rfl⟩
  have hlk := fun nd => (HL.out.of.drew nd).lookup_none (t := 57) lkLaw Try.underlying57 (zero_u32 _) HKL.out (ofL_no HJ.out)
  unfold LK.v at hlk
  go_wp2_with fail
  refine wp_region_held_drew (S := fun w' => ∃ n, w' = w1.drewN n) (by kernel_rfl) (⟨1, rfl⟩) (fun hHeld => ?_)
  refine wpAnyH_take (i := 0) (oi := { dst := some 10, op := Op.move (Operand.tmp 0), type := 23, pos := "label.go:63", after := #[], guard := none }) (v := ?_) rfl (by kernel_rfl) (by kernel_rfl) (by kernel_rfl) (fun _ _ _ h => h) (Or.inl ⟨by rfl, ?_⟩) hHeld ?_
  rotate_left
  · intro w hSw
    obtain ⟨nd, rfl⟩ := hSw
    go_simp
    try with_reducible rfl
  try simp only [Act.put, List.setIfInBounds_toArray, List.set_cons_zero, List.set_cons_succ]
  refine wpAnyH_take (i := 1) (oi := { dst := some 11, op := Op.nilCheck (Operand.tmp 10), type := 0, pos := "label.go:63", after := #[{ on := 0, ground := Ground.data }], guard := none }) (v := ?_) rfl (by kernel_rfl) (by kernel_rfl) (by kernel_rfl) (fun _ _ _ h => h) (Or.inl ⟨by rfl, ?_⟩) hHeld ?_
  rotate_left
  · intro w hSw
    obtain ⟨nd, rfl⟩ := hSw
    go_simp
    try with_reducible rfl
  try simp only [Act.put, List.setIfInBounds_toArray, List.set_cons_zero, List.set_cons_succ]
  refine wpAnyH_take (i := 2) (oi := { dst := some 12, op := Op.fieldAddr 60 (Operand.tmp 11) 2, type := 0, pos := "label.go:63", after := #[{ on := 1, ground := Ground.data }], guard := none }) (v := ?_) rfl (by kernel_rfl) (by kernel_rfl) (by kernel_rfl) (fun _ _ _ h => h) (Or.inl ⟨by rfl, ?_⟩) hHeld ?_
  rotate_left
  · intro w hSw
    obtain ⟨nd, rfl⟩ := hSw
    go_simp
    try with_reducible rfl
  try simp only [Act.put, List.setIfInBounds_toArray, List.set_cons_zero, List.set_cons_succ]
  refine wpAnyH_take (i := 3) (oi := { dst := some 13, op := Op.load 57 (Operand.tmp 12), type := 57, pos := "label.go:63", after := #[{ on := 2, ground := Ground.data }], guard := none }) (v := ?_) rfl (by kernel_rfl) (by kernel_rfl) (by kernel_rfl) (fun _ _ _ h => h) (Or.inl ⟨by rfl, ?_⟩) hHeld ?_
  rotate_left
  · intro w hSw
    obtain ⟨nd, rfl⟩ := hSw
    go_simp
    try with_reducible rfl
  try simp only [Act.put, List.setIfInBounds_toArray, List.set_cons_zero, List.set_cons_succ]
  refine wpAnyH_take (i := 4) (oi := { dst := some 14, op := Op.load 34 (Operand.tmp 3), type := 34, pos := "label.go:63", after := #[], guard := none }) (v := ?_) rfl (by kernel_rfl) (by kernel_rfl) (by kernel_rfl) (fun _ _ _ h => h) (Or.inl ⟨by rfl, ?_⟩) hHeld ?_
  rotate_left
  · intro w hSw
    obtain ⟨nd, rfl⟩ := hSw
    go_simp
    try with_reducible rfl
  try simp only [Act.put, List.setIfInBounds_toArray, List.set_cons_zero, List.set_cons_succ]
  refine wpAnyH_take (i := 5) (oi := { dst := some 15, op := Op.lookup 57 (Operand.tmp 13) (Operand.tmp 14) true, type := 40, pos := "label.go:63", after := #[{ on := 3, ground := Ground.data }, { on := 4, ground := Ground.data }], guard := none }) (v := ?_) rfl (by kernel_rfl) (by kernel_rfl) (by kernel_rfl) (fun _ _ _ h => h) (Or.inl ⟨by rfl, ?_⟩) hHeld ?_
  rotate_left
  · intro w hSw
    obtain ⟨nd, rfl⟩ := hSw
    go_simp
    try with_reducible rfl
  try simp only [Act.put, List.setIfInBounds_toArray, List.set_cons_zero, List.set_cons_succ]
  refine wpAnyH_take (i := 6) (oi := { dst := some 9, op := Op.move (Operand.tmp 15), type := 40, pos := "label.go:63", after := #[{ on := 5, ground := Ground.data }], guard := none }) (v := ?_) rfl (by kernel_rfl) (by kernel_rfl) (by kernel_rfl) (fun _ _ _ h => h) (Or.inl ⟨by rfl, ?_⟩) hHeld ?_
  rotate_left
  · intro w hSw
    obtain ⟨nd, rfl⟩ := hSw
    go_simp
    try with_reducible rfl
  try simp only [Act.put, List.setIfInBounds_toArray, List.set_cons_zero, List.set_cons_succ]
  refine wpAnyH_take (i := 7) (oi := { dst := some 16, op := Op.extract (Operand.tmp 9) 0, type := 27, pos := "label.go:63", after := #[{ on := 6, ground := Ground.data }], guard := none }) (v := ?_) rfl (by kernel_rfl) (by kernel_rfl) (by kernel_rfl) (fun _ _ _ h => h) (Or.inl ⟨by rfl, ?_⟩) hHeld ?_
  rotate_left
  · intro w hSw
    obtain ⟨nd, rfl⟩ := hSw
    go_simp
    try with_reducible rfl
  try simp only [Act.put, List.setIfInBounds_toArray, List.set_cons_zero, List.set_cons_succ]
  refine wpAnyH_take (i := 8) (oi := { dst := some 17, op := Op.extract (Operand.tmp 9) 1, type := 4, pos := "label.go:63", after := #[{ on := 6, ground := Ground.data }, { on := 9, ground := Ground.gcOnly Departure.lateStores }], guard := none }) (v := ?_) rfl (by kernel_rfl) (by kernel_rfl) (by kernel_rfl) (fun _ _ _ h => h) (Or.inl ⟨by rfl, ?_⟩) hHeld ?_
  rotate_left
  · intro w hSw
    obtain ⟨nd, rfl⟩ := hSw
    go_simp
    try with_reducible rfl
  try simp only [Act.put, List.setIfInBounds_toArray, List.set_cons_zero, List.set_cons_succ]
  refine wpAnyH_take (i := 9) (oi := { dst := some 5, op := Op.assign (Operand.tmp 16), type := 27, pos := "label.go:63", after := #[{ on := 7, ground := Ground.data }, { on := 0, ground := Ground.phase }, { on := 1, ground := Ground.phase }, { on := 2, ground := Ground.phase }, { on := 3, ground := Ground.phase }, { on := 4, ground := Ground.phase }, { on := 5, ground := Ground.phase }, { on := 6, ground := Ground.phase }, { on := 7, ground := Ground.phase }, { on := 8, ground := Ground.textOnly Departure.lateStores }], guard := none }) (v := ?_) rfl (by kernel_rfl) (by kernel_rfl) (by kernel_rfl) (fun _ _ _ h => h) (Or.inl ⟨by rfl, ?_⟩) hHeld ?_
  rotate_left
  · intro w hSw
    obtain ⟨nd, rfl⟩ := hSw
    go_simp
    try with_reducible rfl
  try simp only [Act.put, List.setIfInBounds_toArray, List.set_cons_zero, List.set_cons_succ]
  refine wpAnyH_take (i := 10) (oi := { dst := some 6, op := Op.assign (Operand.tmp 17), type := 4, pos := "label.go:63", after := #[{ on := 8, ground := Ground.data }, { on := 9, ground := Ground.chain }, { on := 0, ground := Ground.phase }, { on := 1, ground := Ground.phase }, { on := 2, ground := Ground.phase }, { on := 3, ground := Ground.phase }, { on := 4, ground := Ground.phase }, { on := 5, ground := Ground.phase }, { on := 6, ground := Ground.phase }, { on := 7, ground := Ground.phase }, { on := 8, ground := Ground.phase }, { on := 9, ground := Ground.phase }], guard := none }) (v := ?_) rfl (by kernel_rfl) (by kernel_rfl) (by kernel_rfl) (fun _ _ _ h => h) (Or.inl ⟨by rfl, ?_⟩) hHeld ?_
  rotate_left
  · intro w hSw
    obtain ⟨nd, rfl⟩ := hSw
    go_simp
    try with_reducible rfl
  try simp only [Act.put, List.setIfInBounds_toArray, List.set_cons_zero, List.set_cons_succ]
  refine wpAnyH_done (by kernel_rfl) ?_ _
  clear hHeld
  go_wp2_with fail
  go_ret
  exact ⟨rfl, below_drewN HA.out 1⟩

theorem erase_of (S : List (LK × Nat)) (j : Nat) : (ofL S).eraseIdx j = ofL (S.eraseIdx j) := by unfold ofL; rw [← Go.ChangeMaps.map_eraseIdx]
theorem erase_key (S : List (LK × Nat)) (j : Nat) : (keyL S).eraseIdx j = keyL (S.eraseIdx j) := by unfold keyL; rw [← Go.ChangeMaps.map_eraseIdx]

set_option maxHeartbeats 2000000 in
theorem give_some (w : World) (b m1 m2 low high j : Nat) (S : List (LK × Nat)) (k : LK) (n : Nat) (h : LabAt w b m1 m2 low high S) (hk : k.Ok) (hj : S[j]? = some (k, n)) :
    Calls Try.prog 12 #[.pointer (some ⟨b, 0, none⟩), k.v] w fun e w' => e = .returned (.bool true) ∧ LabAt w' b m1 m2 low high (S.eraseIdx j) ∧ GrownX (fun i => i = m1 ∨ i = m2) w w' := by
  have hlo := h.lo
  have hlh := h.lh
  have hhi := h.hi
  obtain ⟨N1, N2, N6⟩ := h.n1, h.n2, h.n3
  obtain ⟨l0, l1, l2⟩ := h.lt
  have N3 : w.heap.size ≠ m1 := by omega
  have N4 : w.heap.size ≠ m2 := by omega
  have hn : n < 4294967296 := by
    have h1 := (h.ok _ (List.mem_of_getElem? hj)).2.2
    simp only at h1
    omega
  obtain ⟨kl, hkl⟩ := lk_key k hk
  have lb := h.lt.1
  have hA := Below.alloc (Below.refl w.heap.size w) (Nat.le_refl _) (.cells #[.string k.vrf, .int .i64 k.fam, .int .u64 k.rd, .string k.addr, .int .i64 k.len] 34)
  have HL := Lib.hid (h.below hA (Nat.le_refl _))
  have HK := Lib.hid (CellsAt.new w #[.string k.vrf, .int .i64 k.fam, .int .u64 k.rd, .string k.addr, .int .i64 k.len] 34)
  have HA := Lib.hid hA
  have HJ := Lib.hid hj
  have HKL := Lib.hid hkl
  have HKO := Lib.hid hk
  clear hA hj hkl hk h
  unfold LK.v
  generalize hw0 : w.alloc (.cells #[.string k.vrf, .int .i64 k.fam, .int .u64 k.rd, .string k.addr, .int .i64 k.len] 34) = w0 at HL HK HA
  have hz0 : w0.heap.size = w.heap.size + 1 := by rw [← hw0]; simp
  obtain ⟨c0, c1, c2, c3⟩ := HL.out.c
  obtain ⟨k0, k1, k2, k3, k4⟩ := HK.out.c5
  go_enter Try.func12, Try.ntmps12
  go_wp2_with fail
  clear hw0
  refine (none_any b m1 _ c2).mono ?_
  rintro e w1 ⟨rfl, rfl⟩
  have hlk := fun nd => (HL.out.of.drew nd).lookup_some (t := 57) lkLaw Try.underlying57 (zero_u32 _) HKL.out (ofL_at HJ.out)
  unfold LK.v at hlk
  go_wp2_with fail
  refine wp_region_held_drew (S := fun w' => ∃ n, w' = w1.drewN n) (by kernel_rfl) (⟨1, rfl⟩) (fun hHeld => ?_)
  refine wpAnyH_take (i := 0) (oi := { dst := some 10, op := Op.move (Operand.tmp 0), type := 23, pos := "label.go:63", after := #[], guard := none }) (v := ?_) rfl (by kernel_rfl) (by kernel_rfl) (by kernel_rfl) (fun _ _ _ h => h) (Or.inl ⟨by rfl, ?_⟩) hHeld ?_
  rotate_left
  · intro w hSw
    obtain ⟨nd, rfl⟩ := hSw
    go_simp
    try with_reducible rfl
  try simp only [Act.put, List.setIfInBounds_toArray, List.set_cons_zero, List.set_cons_succ]
  refine wpAnyH_take (i := 1) (oi := { dst := some 11, op := Op.nilCheck (Operand.tmp 10), type := 0, pos := "label.go:63", after := #[{ on := 0, ground := Ground.data }], guard := none }) (v := ?_) rfl (by kernel_rfl) (by kernel_rfl) (by kernel_rfl) (fun _ _ _ h => h) (Or.inl ⟨by rfl, ?_⟩) hHeld ?_
  rotate_left
  · intro w hSw
    obtain ⟨nd, rfl⟩ := hSw
    go_simp
    try with_reducible rfl
  try simp only [Act.put, List.setIfInBounds_toArray, List.set_cons_zero, List.set_cons_succ]
  refine wpAnyH_take (i := 2) (oi := { dst := some 12, op := Op.fieldAddr 60 (Operand.tmp 11) 2, type := 0, pos := "label.go:63", after := #[{ on := 1, ground := Ground.data }], guard := none }) (v := ?_) rfl (by kernel_rfl) (by kernel_rfl) (by kernel_rfl) (fun _ _ _ h => h) (Or.inl ⟨by rfl, ?_⟩) hHeld ?_
  rotate_left
  · intro w hSw
    obtain ⟨nd, rfl⟩ := hSw
    go_simp
    try with_reducible rfl
  try simp only [Act.put, List.setIfInBounds_toArray, List.set_cons_zero, List.set_cons_succ]
  refine wpAnyH_take (i := 3) (oi := { dst := some 13, op := Op.load 57 (Operand.tmp 12), type := 57, pos := "label.go:63", after := #[{ on := 2, ground := Ground.data }], guard := none }) (v := ?_) rfl (by kernel_rfl) (by kernel_rfl) (by kernel_rfl) (fun _ _ _ h => h) (Or.inl ⟨by rfl, ?_⟩) hHeld ?_
  rotate_left
  · intro w hSw
    obtain ⟨nd, rfl⟩ := hSw
    go_simp
    try with_reducible rfl
  try simp only [Act.put, List.setIfInBounds_toArray, List.set_cons_zero, List.set_cons_succ]
  refine wpAnyH_take (i := 4) (oi := { dst := some 14, op := Op.load 34 (Operand.tmp 3), type := 34, pos := "label.go:63", after := #[], guard := none }) (v := ?_) rfl (by kernel_rfl) (by kernel_rfl) (by kernel_rfl) (fun _ _ _ h => h) (Or.inl ⟨by rfl, ?_⟩) hHeld ?_
  rotate_left
  · intro w hSw
    obtain ⟨nd, rfl⟩ := hSw
    go_simp
    try with_reducible rfl
  try simp only [Act.put, List.setIfInBounds_toArray, List.set_cons_zero, List.set_cons_succ]
  refine wpAnyH_take (i := 5) (oi := { dst := some 15, op := Op.lookup 57 (Operand.tmp 13) (Operand.tmp 14) true, type := 40, pos := "label.go:63", after := #[{ on := 3, ground := Ground.data }, { on := 4, ground := Ground.data }], guard := none }) (v := ?_) rfl (by kernel_rfl) (by kernel_rfl) (by kernel_rfl) (fun _ _ _ h => h) (Or.inl ⟨by rfl, ?_⟩) hHeld ?_
  rotate_left
  · intro w hSw
    obtain ⟨nd, rfl⟩ := hSw
    go_simp
    try with_reducible rfl
  try simp only [Act.put, List.setIfInBounds_toArray, List.set_cons_zero, List.set_cons_succ]
  refine wpAnyH_take (i := 6) (oi := { dst := some 9, op := Op.move (Operand.tmp 15), type := 40, pos := "label.go:63", after := #[{ on := 5, ground := Ground.data }], guard := none }) (v := ?_) rfl (by kernel_rfl) (by kernel_rfl) (by kernel_rfl) (fun _ _ _ h => h) (Or.inl ⟨by rfl, ?_⟩) hHeld ?_
  rotate_left
  · intro w hSw
    obtain ⟨nd, rfl⟩ := hSw
    go_simp
    try with_reducible rfl
  try simp only [Act.put, List.setIfInBounds_toArray, List.set_cons_zero, List.set_cons_succ]
  refine wpAnyH_take (i := 7) (oi := { dst := some 16, op := Op.extract (Operand.tmp 9) 0, type := 27, pos := "label.go:63", after := #[{ on := 6, ground := Ground.data }], guard := none }) (v := ?_) rfl (by kernel_rfl) (by kernel_rfl) (by kernel_rfl) (fun _ _ _ h => h) (Or.inl ⟨by rfl, ?_⟩) hHeld ?_
  rotate_left
  · intro w hSw
    obtain ⟨nd, rfl⟩ := hSw
    go_simp
    try with_reducible rfl
  try simp only [Act.put, List.setIfInBounds_toArray, List.set_cons_zero, List.set_cons_succ]
  refine wpAnyH_take (i := 8) (oi := { dst := some 17, op := Op.extract (Operand.tmp 9) 1, type := 4, pos := "label.go:63", after := #[{ on := 6, ground := Ground.data }, { on := 9, ground := Ground.gcOnly Departure.lateStores }], guard := none }) (v := ?_) rfl (by kernel_rfl) (by kernel_rfl) (by kernel_rfl) (fun _ _ _ h => h) (Or.inl ⟨by rfl, ?_⟩) hHeld ?_
  rotate_left
  · intro w hSw
    obtain ⟨nd, rfl⟩ := hSw
    go_simp
    try with_reducible rfl
  try simp only [Act.put, List.setIfInBounds_toArray, List.set_cons_zero, List.set_cons_succ]
  refine wpAnyH_take (i := 9) (oi := { dst := some 5, op := Op.assign (Operand.tmp 16), type := 27, pos := "label.go:63", after := #[{ on := 7, ground := Ground.data }, { on := 0, ground := Ground.phase }, { on := 1, ground := Ground.phase }, { on := 2, ground := Ground.phase }, { on := 3, ground := Ground.phase }, { on := 4, ground := Ground.phase }, { on := 5, ground := Ground.phase }, { on := 6, ground := Ground.phase }, { on := 7, ground := Ground.phase }, { on := 8, ground := Ground.textOnly Departure.lateStores }], guard := none }) (v := ?_) rfl (by kernel_rfl) (by kernel_rfl) (by kernel_rfl) (fun _ _ _ h => h) (Or.inl ⟨by rfl, ?_⟩) hHeld ?_
  rotate_left
  · intro w hSw
    obtain ⟨nd, rfl⟩ := hSw
    go_simp
    try with_reducible rfl
  try simp only [Act.put, List.setIfInBounds_toArray, List.set_cons_zero, List.set_cons_succ]
  refine wpAnyH_take (i := 10) (oi := { dst := some 6, op := Op.assign (Operand.tmp 17), type := 4, pos := "label.go:63", after := #[{ on := 8, ground := Ground.data }, { on := 9, ground := Ground.chain }, { on := 0, ground := Ground.phase }, { on := 1, ground := Ground.phase }, { on := 2, ground := Ground.phase }, { on := 3, ground := Ground.phase }, { on := 4, ground := Ground.phase }, { on := 5, ground := Ground.phase }, { on := 6, ground := Ground.phase }, { on := 7, ground := Ground.phase }, { on := 8, ground := Ground.phase }, { on := 9, ground := Ground.phase }], guard := none }) (v := ?_) rfl (by kernel_rfl) (by kernel_rfl) (by kernel_rfl) (fun _ _ _ h => h) (Or.inl ⟨by rfl, ?_⟩) hHeld ?_
  rotate_left
  · intro w hSw
    obtain ⟨nd, rfl⟩ := hSw
    go_simp
    try with_reducible rfl
  try simp only [Act.put, List.setIfInBounds_toArray, List.set_cons_zero, List.set_cons_succ]
  refine wpAnyH_done (by kernel_rfl) ?_ _
  clear hHeld hlk c0 c1 c2 c3 k0 k1 k2 k3 k4
  have HL3 : Hid (LabAt w1.drew b m1 m2 low high S) := HL.out.drew 1
  have HK3 : Hid (CellsAt w1.drew w.heap.size #[.string k.vrf, .int .i64 k.fam, .int .u64 k.rd, .string k.addr, .int .i64 k.len] 34) := HK.out.drew 1
  have HA3 : Hid (Below w.heap.size w w1.drew) := below_drewN HA.out 1
  clear HL HK HA hz0
  generalize w1.drew = w3 at HL3 HK3 HA3 ⊢
  go_wp2_with fail
  have hof : MapAt Try.prog 34 w3.drew m1 (ofL S) := HL3.out.of.drew 1
  have hky : MapAt Try.prog 27 w3.drew m2 (keyL S) := HL3.out.key.drew 1
  obtain ⟨W1, e1, g1, M1⟩ := hof.delete_some (t := 57) (ty := 0) lkLaw Try.underlying57 HKL.out (ofL_at HJ.out)
  have hky1 := hky.grownBy g1 (fun e => N6 (by injection e with e; exact e.symm))
  obtain ⟨W2, e2, g2, M2⟩ := hky1.delete_some (t := 58) (ty := 0) u32Law Try.underlying58 (u32_key n hn) (keyL_at HJ.out)
  rw [erase_of] at M1
  rw [erase_key] at M2
  have M1' := M1.grownBy g2 (fun e => N6 (by injection e))
  have B1 := (HL3.out.cells.drew 1).row g1 N1
  have B' := B1.row g2 N2
  have G : GrownX (fun i => i = m1 ∨ i = m2) w3.drew W2 := (GrownX.of_row g1 (Or.inl rfl)).trans (GrownX.of_row g2 (Or.inr rfl))
  have G' : GrownX (fun i => i = m1 ∨ i = m2) w W2 := (GrownX.of_below (below_drewN HA3.out 1)).trans G
  have hok : ∀ p ∈ S.eraseIdx j, p.1.Ok ∧ low ≤ p.2 ∧ p.2 ≤ high := fun p hp => HL3.out.ok p ((List.eraseIdx_sublist _ _).subset hp)
  have hF : LabAt W2 b m1 m2 low high (S.eraseIdx j) := ⟨B', M1', M2, N1, N2, N6, hok, hlo, hlh, hhi⟩
  rw [LK.agg] at e1
  have HF := Lib.hid hF
  have HG := Lib.hid G'
  obtain ⟨c0, c1, c2, c3⟩ := B1.c4
  clear hof hky hky1 M1 M2 M1' B' G G' hF B1 hok
  refine wp_region_held_drew (S := fun w' => CellsAt w' b #[.int .u32 low, .int .u32 high, .map (some m1), .map (some m2)] 60 ∧ CellsAt w' w.heap.size #[.string k.vrf, .int .i64 k.fam, .int .u64 k.rd, .string k.addr, .int .i64 k.len] 34) (by kernel_rfl) (And.intro (HL3.out.cells.drew 1) (HK3.out.drew 1)) (fun hHeld => ?_)
  refine wpAnyH_take (i := 0) (oi := { dst := some 19, op := Op.move (Operand.tmp 0), type := 23, pos := "label.go:65", after := #[], guard := none }) (v := ?_) rfl (by kernel_rfl) (by kernel_rfl) (by kernel_rfl) (fun _ _ _ h => h) (Or.inl ⟨by rfl, ?_⟩) hHeld ?_
  rotate_left
  · intro w hSw
    clear hSw
    go_simp
    try with_reducible rfl
  try simp only [Act.put, List.setIfInBounds_toArray, List.set_cons_zero, List.set_cons_succ]
  refine wpAnyH_take (i := 1) (oi := { dst := some 20, op := Op.nilCheck (Operand.tmp 19), type := 0, pos := "label.go:65", after := #[{ on := 0, ground := Ground.data }], guard := none }) (v := ?_) rfl (by kernel_rfl) (by kernel_rfl) (by kernel_rfl) (fun _ _ _ h => h) (Or.inl ⟨by rfl, ?_⟩) hHeld ?_
  rotate_left
  · intro w hSw
    clear hSw
    go_simp
    try with_reducible rfl
  try simp only [Act.put, List.setIfInBounds_toArray, List.set_cons_zero, List.set_cons_succ]
  refine wpAnyH_take (i := 2) (oi := { dst := some 21, op := Op.fieldAddr 60 (Operand.tmp 20) 2, type := 0, pos := "label.go:65", after := #[{ on := 1, ground := Ground.data }], guard := none }) (v := ?_) rfl (by kernel_rfl) (by kernel_rfl) (by kernel_rfl) (fun _ _ _ h => h) (Or.inl ⟨by rfl, ?_⟩) hHeld ?_
  rotate_left
  · intro w hSw
    clear hSw
    go_simp
    try with_reducible rfl
  try simp only [Act.put, List.setIfInBounds_toArray, List.set_cons_zero, List.set_cons_succ]
  refine wpAnyH_take (i := 3) (oi := { dst := some 22, op := Op.load 57 (Operand.tmp 21), type := 57, pos := "label.go:65", after := #[{ on := 2, ground := Ground.data }], guard := none }) (v := ?_) rfl (by kernel_rfl) (by kernel_rfl) (by kernel_rfl) (fun _ _ _ h => h) (Or.inl ⟨by rfl, ?_⟩) hHeld ?_
  rotate_left
  · intro w hSw
    obtain ⟨q1, q2⟩ := hSw
    obtain ⟨c0, c1, c2, c3⟩ := q1.c4
    obtain ⟨k0, k1, k2, k3, k4⟩ := q2.c5
    go_simp
    try with_reducible rfl
  try simp only [Act.put, List.setIfInBounds_toArray, List.set_cons_zero, List.set_cons_succ]
  refine wpAnyH_take (i := 4) (oi := { dst := some 23, op := Op.load 34 (Operand.tmp 3), type := 34, pos := "label.go:65", after := #[], guard := none }) (v := ?_) rfl (by kernel_rfl) (by kernel_rfl) (by kernel_rfl) (fun _ _ _ h => h) (Or.inl ⟨by rfl, ?_⟩) hHeld ?_
  rotate_left
  · intro w hSw
    obtain ⟨q1, q2⟩ := hSw
    obtain ⟨c0, c1, c2, c3⟩ := q1.c4
    obtain ⟨k0, k1, k2, k3, k4⟩ := q2.c5
    go_simp
    try with_reducible rfl
  try simp only [Act.put, List.setIfInBounds_toArray, List.set_cons_zero, List.set_cons_succ]
  refine wpAnyH_ready (rs := [5]) (by kernel_rfl) (by simp) ?_
  refine AllReadyH.cons (o := { dst := none, op := Op.call { callee := Callee.builtin Builtin.delete, args := #[Operand.tmp 22, Operand.tmp 23], argTypes := #[57, 34] }, type := 0, pos := "label.go:65", after := #[{ on := 3, ground := Ground.data }, { on := 4, ground := Ground.data }], guard := none }) rfl (fun K hK => ?_) AllReadyH.nil
  go_simp
  skip
  refine hK.out _ _ (And.intro (hHeld.1.row g1 N1) (hHeld.2.row g1 N3)) (fun hHeld => ?_)
  clear hK K
  try simp only [Act.put, List.setIfInBounds_toArray, List.set_cons_zero, List.set_cons_succ]
  refine wpAnyH_done (by kernel_rfl) ?_ _
  clear hHeld
  go_wp2_with fail
  go_ret
  exact ⟨rfl, HF.out, HG.out⟩

end Go.Proofs.Ytngehobekmijbaa
