/-
  Labels: contracts of Key, Take. Conditions: sizes.
-/
import Derived.Test.YtngehobekmijbaaLabC
import Derived.LoopTactic
set_option linter.unusedVariables false
set_option linter.unusedSimpArgs false
namespace Go.Proofs.Ytngehobekmijbaa
open Go.RowKit Go.MapKept
open Go.Maps (Keyed)

/-- block b holds these cells -/
def CellsAt (w : World) (b : Nat) (cs : Array Value) (T : TypeId) : Prop := w.heap[b]? = some (.cells cs T (0, 0))
section
variable {w w' : World} {b : Nat} {cs : Array Value} {T : TypeId}
theorem CellsAt.lt (h : CellsAt w b cs T) : b < w.heap.size := (Array.getElem?_eq_some_iff.1 h).1
theorem CellsAt.new (w : World) (cs : Array Value) (T : TypeId) : CellsAt (w.alloc (.cells cs T)) w.heap.size cs T := heap_alloc_new w _
theorem CellsAt.below {B : Nat} (h : CellsAt w b cs T) (hg : Below B w w') (hb : b < B) : CellsAt w' b cs T := (hg.block b hb).trans h
theorem CellsAt.alloc (h : CellsAt w b cs T) (o : Obj) : CellsAt (w.alloc o) b cs T :=
  h.below ((Below.refl w.heap.size w).alloc (Nat.le_refl _) o) h.lt
theorem CellsAt.drew (h : CellsAt w b cs T) (n : Nat) : CellsAt (w.drewN n) b cs T := h
theorem CellsAt.row {m : Nat} (h : CellsAt w b cs T) (hg : w.grownBy w' (some m)) (hb : b ≠ m) : CellsAt w' b cs T := (hg.block b h.lt (fun e => hb (by injection e))).trans h
theorem CellsAt.c (h : CellsAt w b cs T) (i : Nat) : w.cell? ⟨b, i, none⟩ = cs[i]? := cell_of_row w b i _ _ _ h
theorem CellsAt.c4 {x y z u : Value} (h : CellsAt w b #[x, y, z, u] T) : w.cell? ⟨b, 0, none⟩ = some x ∧ w.cell? ⟨b, 1, none⟩ = some y ∧ w.cell? ⟨b, 2, none⟩ = some z ∧ w.cell? ⟨b, 3, none⟩ = some u :=
  ⟨(h.c 0).trans rfl, (h.c 1).trans rfl, (h.c 2).trans rfl, (h.c 3).trans rfl⟩
theorem CellsAt.c5 {x y z u v : Value} (h : CellsAt w b #[x, y, z, u, v] T) : w.cell? ⟨b, 0, none⟩ = some x ∧ w.cell? ⟨b, 1, none⟩ = some y ∧ w.cell? ⟨b, 2, none⟩ = some z ∧ w.cell? ⟨b, 3, none⟩ = some u ∧ w.cell? ⟨b, 4, none⟩ = some v :=
  ⟨(h.c 0).trans rfl, (h.c 1).trans rfl, (h.c 2).trans rfl, (h.c 3).trans rfl, (h.c 4).trans rfl⟩
end
theorem LabAt.cells {w : World} {b m1 m2 low high : Nat} {S : List (LK × Nat)} (h : LabAt w b m1 m2 low high S) : CellsAt w b #[.int .u32 low, .int .u32 high, .map (some m1), .map (some m2)] 60 := h.blk

theorem lkey_some (w : World) (b m1 m2 low high j : Nat) (S : List (LK × Nat)) (k : LK) (n : Nat) (h : LabAt w b m1 m2 low high S) (hj : S[j]? = some (k, n)) :
    Calls Try.prog 14 #[.pointer (some ⟨b, 0, none⟩), .int .u32 n] w fun e w' => e = .returned (.tuple #[k.v, .bool true]) ∧ Below w.heap.size w w' := by
  have lb := h.lt.1
  have hn : n < 4294967296 := by
    have h1 := (h.ok _ (List.mem_of_getElem? hj)).2.2
    have h2 := h.hi
    simp only at h1
    omega
  have h1 := h.below (Below.alloc (Below.refl w.heap.size w) (Nat.le_refl _) (.cells #[.string ByteArray.empty, .int .i64 0, .int .u64 0, .string ByteArray.empty, .int .i64 0] 34)) (Nat.le_refl _)
  obtain ⟨c0, c1, c2, c3⟩ := h1.c
  have hlk := h1.key.lookup_some (t := 58) u32Law Try.underlying58 (zero_lk _) (u32_key n hn) (keyL_at hj)
  unfold LK.v at hlk ⊢
  clear h hj h1 hn
  go_enter Try.func14, Try.ntmps14
  go_wp2_with fail
  refine (none_any b m1 _ c2).mono ?_
  rintro e w1 ⟨rfl, rfl⟩
  go_wp2_with fail
  refine bodyPost_ret (v := .tuple #[.agg #[.string k.vrf, .int .i64 k.fam, .int .u64 k.rd, .string k.addr, .int .i64 k.len], .bool true]) (by simp [results, Try.results14, go_sem]) rfl ⟨rfl, ?_⟩
  go_grown
theorem lkey_none (w : World) (b m1 m2 low high : Nat) (S : List (LK × Nat)) (n : Nat) (h : LabAt w b m1 m2 low high S) (hn : n < 4294967296) (hj : ∀ p ∈ S, p.2 ≠ n) :
    Calls Try.prog 14 #[.pointer (some ⟨b, 0, none⟩), .int .u32 n] w fun e w' => e = .returned (.tuple #[noKey.v, .bool false]) ∧ Below w.heap.size w w' := by
  have lb := h.lt.1
  have h1 := h.below (Below.alloc (Below.refl w.heap.size w) (Nat.le_refl _) (.cells #[.string ByteArray.empty, .int .i64 0, .int .u64 0, .string ByteArray.empty, .int .i64 0] 34)) (Nat.le_refl _)
  obtain ⟨c0, c1, c2, c3⟩ := h1.c
  have hlk := h1.key.lookup_none (t := 58) u32Law Try.underlying58 (zero_lk _) (u32_key n hn) (keyL_no hj)
  unfold LK.v noKey at hlk ⊢
  simp only at hlk ⊢
  clear h hj h1 hn
  go_enter Try.func14, Try.ntmps14
  go_wp2_with fail
  refine (none_any b m1 _ c2).mono ?_
  rintro e w1 ⟨rfl, rfl⟩
  go_wp2_with fail
  refine bodyPost_ret (v := .tuple #[.agg #[.string ByteArray.empty, .int .i64 0, .int .u64 0, .string ByteArray.empty, .int .i64 0], .bool false]) (by simp [results, Try.results14, go_sem]) rfl ⟨rfl, ?_⟩
  go_grown

set_option maxHeartbeats 1000000 in
theorem take_bad (w : World) (b m1 m2 low high : Nat) (S : List (LK × Nat)) (k : LK) (h : LabAt w b m1 m2 low high S) (hk : k.Ok) (hm : kmay k = false) :
    Calls Try.prog 9 #[.pointer (some ⟨b, 0, none⟩), k.v] w fun e w' => e = .returned (.tuple #[.int .u32 0, .int .i64 2]) ∧ Below w.heap.size w w' := by
  have hj : True := trivial
  obtain ⟨kl, hkl⟩ := lk_key k hk
  have lb := h.lt.1
  have hA := Below.alloc (Below.refl w.heap.size w) (Nat.le_refl _) (.cells #[.string k.vrf, .int .i64 k.fam, .int .u64 k.rd, .string k.addr, .int .i64 k.len] 34)
  have HL := Lib.hid (h.below hA (Nat.le_refl _))
  have HK := Lib.hid (CellsAt.new w #[.string k.vrf, .int .i64 k.fam, .int .u64 k.rd, .string k.addr, .int .i64 k.len] 34)
  have HA := Lib.hid hA
  have HM := Lib.hid (fun w => may_any k hk w)
  rw [hm] at HM
  clear hm
  have HJ := Lib.hid hj
  have HKL := Lib.hid hkl
  have HKO := Lib.hid hk
  clear hA hj hkl hk h
  unfold LK.v at HM ⊢
  generalize hw0 : w.alloc (.cells #[.string k.vrf, .int .i64 k.fam, .int .u64 k.rd, .string k.addr, .int .i64 k.len] 34) = w0 at HL HK HA
  have hz0 : w0.heap.size = w.heap.size + 1 := by rw [← hw0]; simp
  obtain ⟨c0, c1, c2, c3⟩ := HL.out.c
  obtain ⟨k0, k1, k2, k3, k4⟩ := HK.out.c5
  go_enter Try.func9, Try.ntmps9
  go_wp2_with fail
  clear hw0
  refine (none_any b m1 _ c2).mono ?_
  rintro e w1 ⟨rfl, rfl⟩
  go_wp2_with fail
  refine (HM.out _).mono ?_
  rintro e w2 ⟨rfl, hb⟩
  have HL2 := Lib.hid (HL.out.below hb (Nat.le_refl _))
  have HK2 := Lib.hid (HK.out.below hb (by omega))
  have HA2 := Lib.hid (HA.out.trans (hb.mono (by omega)))
  have hz2 : w.heap.size + 1 ≤ w2.heap.size := by have := hb.size; omega
  clear hb HL HK HA c0 c1 c2 c3 k0 k1 k2 k3 k4
  obtain ⟨c0, c1, c2, c3⟩ := HL2.out.c
  obtain ⟨k0, k1, k2, k3, k4⟩ := HK2.out.c5
  go_wp2_with fail
  go_ret2
  exact ⟨rfl, HA2.out⟩

set_option maxHeartbeats 1000000 in
theorem take_some (w : World) (b m1 m2 low high j : Nat) (S : List (LK × Nat)) (k : LK) (n : Nat) (h : LabAt w b m1 m2 low high S) (hk : k.Ok) (hm : kmay k = true) (hj : S[j]? = some (k, n)) :
    Calls Try.prog 9 #[.pointer (some ⟨b, 0, none⟩), k.v] w fun e w' => e = .returned (.tuple #[.int .u32 n, .int .i64 0]) ∧ Below w.heap.size w w' := by
  obtain ⟨kl, hkl⟩ := lk_key k hk
  have lb := h.lt.1
  have hA := Below.alloc (Below.refl w.heap.size w) (Nat.le_refl _) (.cells #[.string k.vrf, .int .i64 k.fam, .int .u64 k.rd, .string k.addr, .int .i64 k.len] 34)
  have HL := Lib.hid (h.below hA (Nat.le_refl _))
  have HK := Lib.hid (CellsAt.new w #[.string k.vrf, .int .i64 k.fam, .int .u64 k.rd, .string k.addr, .int .i64 k.len] 34)
  have HA := Lib.hid hA
  have HM := Lib.hid (fun w => may_any k hk w)
  rw [hm] at HM
  clear hm
  have HJ := Lib.hid hj
  have HKL := Lib.hid hkl
  have HKO := Lib.hid hk
  clear hA hj hkl hk h
  unfold LK.v at HM ⊢
  generalize hw0 : w.alloc (.cells #[.string k.vrf, .int .i64 k.fam, .int .u64 k.rd, .string k.addr, .int .i64 k.len] 34) = w0 at HL HK HA
  have hz0 : w0.heap.size = w.heap.size + 1 := by rw [← hw0]; simp
  obtain ⟨c0, c1, c2, c3⟩ := HL.out.c
  obtain ⟨k0, k1, k2, k3, k4⟩ := HK.out.c5
  go_enter Try.func9, Try.ntmps9
  go_wp2_with fail
  clear hw0
  refine (none_any b m1 _ c2).mono ?_
  rintro e w1 ⟨rfl, rfl⟩
  go_wp2_with fail
  refine (HM.out _).mono ?_
  rintro e w2 ⟨rfl, hb⟩
  have HL2 := Lib.hid (HL.out.below hb (Nat.le_refl _))
  have HK2 := Lib.hid (HK.out.below hb (by omega))
  have HA2 := Lib.hid (HA.out.trans (hb.mono (by omega)))
  have hz2 : w.heap.size + 1 ≤ w2.heap.size := by have := hb.size; omega
  clear hb HL HK HA c0 c1 c2 c3 k0 k1 k2 k3 k4
  obtain ⟨c0, c1, c2, c3⟩ := HL2.out.c
  obtain ⟨k0, k1, k2, k3, k4⟩ := HK2.out.c5
  have hlk := fun nd => (HL2.out.of.drew nd).lookup_some (t := 57) lkLaw Try.underlying57 (zero_u32 _) HKL.out (ofL_at HJ.out)
  unfold LK.v at hlk
  go_wp2_with fail
  refine wp_region_held_drew (S := fun w' => ∃ n, w' = w2.drewN n) (by kernel_rfl) (⟨1, rfl⟩) (fun hHeld => ?_)
  refine wpAnyH_take (i := 0) (oi := { dst := some 19, op := Op.move (Operand.tmp 0), type := 23, pos := "label.go:46", after := #[], guard := none }) (v := ?_) rfl (by kernel_rfl) (by kernel_rfl) (by kernel_rfl) (fun _ _ _ h => h) (Or.inl ⟨by rfl, ?_⟩) hHeld ?_
  rotate_left
  · intro w hSw
    obtain ⟨nd, rfl⟩ := hSw
    go_simp
    try with_reducible rfl
  try simp only [Act.put, List.setIfInBounds_toArray, List.set_cons_zero, List.set_cons_succ]
  refine wpAnyH_take (i := 1) (oi := { dst := some 20, op := Op.nilCheck (Operand.tmp 19), type := 0, pos := "label.go:46", after := #[{ on := 0, ground := Ground.data }], guard := none }) (v := ?_) rfl (by kernel_rfl) (by kernel_rfl) (by kernel_rfl) (fun _ _ _ h => h) (Or.inl ⟨by rfl, ?_⟩) hHeld ?_
  rotate_left
  · intro w hSw
    obtain ⟨nd, rfl⟩ := hSw
    go_simp
    try with_reducible rfl
  try simp only [Act.put, List.setIfInBounds_toArray, List.set_cons_zero, List.set_cons_succ]
  refine wpAnyH_take (i := 2) (oi := { dst := some 21, op := Op.fieldAddr 60 (Operand.tmp 20) 2, type := 0, pos := "label.go:46", after := #[{ on := 1, ground := Ground.data }], guard := none }) (v := ?_) rfl (by kernel_rfl) (by kernel_rfl) (by kernel_rfl) (fun _ _ _ h => h) (Or.inl ⟨by rfl, ?_⟩) hHeld ?_
  rotate_left
  · intro w hSw
    obtain ⟨nd, rfl⟩ := hSw
    go_simp
    try with_reducible rfl
  try simp only [Act.put, List.setIfInBounds_toArray, List.set_cons_zero, List.set_cons_succ]
  refine wpAnyH_take (i := 3) (oi := { dst := some 22, op := Op.load 57 (Operand.tmp 21), type := 57, pos := "label.go:46", after := #[{ on := 2, ground := Ground.data }], guard := none }) (v := ?_) rfl (by kernel_rfl) (by kernel_rfl) (by kernel_rfl) (fun _ _ _ h => h) (Or.inl ⟨by rfl, ?_⟩) hHeld ?_
  rotate_left
  · intro w hSw
    obtain ⟨nd, rfl⟩ := hSw
    go_simp
    try with_reducible rfl
  try simp only [Act.put, List.setIfInBounds_toArray, List.set_cons_zero, List.set_cons_succ]
  refine wpAnyH_take (i := 4) (oi := { dst := some 23, op := Op.load 34 (Operand.tmp 3), type := 34, pos := "label.go:46", after := #[], guard := none }) (v := ?_) rfl (by kernel_rfl) (by kernel_rfl) (by kernel_rfl) (fun _ _ _ h => h) (Or.inl ⟨by rfl, ?_⟩) hHeld ?_
  rotate_left
  · intro w hSw
    obtain ⟨nd, rfl⟩ := hSw
    go_simp
    try with_reducible rfl
  try simp only [Act.put, List.setIfInBounds_toArray, List.set_cons_zero, List.set_cons_succ]
  refine wpAnyH_take (i := 5) (oi := { dst := some 24, op := Op.lookup 57 (Operand.tmp 22) (Operand.tmp 23) true, type := 40, pos := "label.go:46", after := #[{ on := 3, ground := Ground.data }, { on := 4, ground := Ground.data }], guard := none }) (v := ?_) rfl (by kernel_rfl) (by kernel_rfl) (by kernel_rfl) (fun _ _ _ h => h) (Or.inl ⟨by rfl, ?_⟩) hHeld ?_
  rotate_left
  · intro w hSw
    obtain ⟨nd, rfl⟩ := hSw
    go_simp
    try with_reducible rfl
  try simp only [Act.put, List.setIfInBounds_toArray, List.set_cons_zero, List.set_cons_succ]
  refine wpAnyH_take (i := 6) (oi := { dst := some 18, op := Op.move (Operand.tmp 24), type := 40, pos := "label.go:46", after := #[{ on := 5, ground := Ground.data }], guard := none }) (v := ?_) rfl (by kernel_rfl) (by kernel_rfl) (by kernel_rfl) (fun _ _ _ h => h) (Or.inl ⟨by rfl, ?_⟩) hHeld ?_
  rotate_left
  · intro w hSw
    obtain ⟨nd, rfl⟩ := hSw
    go_simp
    try with_reducible rfl
  try simp only [Act.put, List.setIfInBounds_toArray, List.set_cons_zero, List.set_cons_succ]
  refine wpAnyH_take (i := 7) (oi := { dst := some 25, op := Op.extract (Operand.tmp 18) 0, type := 27, pos := "label.go:46", after := #[{ on := 6, ground := Ground.data }], guard := none }) (v := ?_) rfl (by kernel_rfl) (by kernel_rfl) (by kernel_rfl) (fun _ _ _ h => h) (Or.inl ⟨by rfl, ?_⟩) hHeld ?_
  rotate_left
  · intro w hSw
    obtain ⟨nd, rfl⟩ := hSw
    go_simp
    try with_reducible rfl
  try simp only [Act.put, List.setIfInBounds_toArray, List.set_cons_zero, List.set_cons_succ]
  refine wpAnyH_take (i := 8) (oi := { dst := some 26, op := Op.extract (Operand.tmp 18) 1, type := 4, pos := "label.go:46", after := #[{ on := 6, ground := Ground.data }, { on := 9, ground := Ground.gcOnly Departure.lateStores }], guard := none }) (v := ?_) rfl (by kernel_rfl) (by kernel_rfl) (by kernel_rfl) (fun _ _ _ h => h) (Or.inl ⟨by rfl, ?_⟩) hHeld ?_
  rotate_left
  · intro w hSw
    obtain ⟨nd, rfl⟩ := hSw
    go_simp
    try with_reducible rfl
  try simp only [Act.put, List.setIfInBounds_toArray, List.set_cons_zero, List.set_cons_succ]
  refine wpAnyH_take (i := 9) (oi := { dst := some 6, op := Op.assign (Operand.tmp 25), type := 27, pos := "label.go:46", after := #[{ on := 7, ground := Ground.data }, { on := 0, ground := Ground.phase }, { on := 1, ground := Ground.phase }, { on := 2, ground := Ground.phase }, { on := 3, ground := Ground.phase }, { on := 4, ground := Ground.phase }, { on := 5, ground := Ground.phase }, { on := 6, ground := Ground.phase }, { on := 7, ground := Ground.phase }, { on := 8, ground := Ground.textOnly Departure.lateStores }], guard := none }) (v := ?_) rfl (by kernel_rfl) (by kernel_rfl) (by kernel_rfl) (fun _ _ _ h => h) (Or.inl ⟨by rfl, ?_⟩) hHeld ?_
  rotate_left
  · intro w hSw
    obtain ⟨nd, rfl⟩ := hSw
    go_simp
    try with_reducible rfl
  try simp only [Act.put, List.setIfInBounds_toArray, List.set_cons_zero, List.set_cons_succ]
  refine wpAnyH_take (i := 10) (oi := { dst := some 7, op := Op.assign (Operand.tmp 26), type := 4, pos := "label.go:46", after := #[{ on := 8, ground := Ground.data }, { on := 9, ground := Ground.chain }, { on := 0, ground := Ground.phase }, { on := 1, ground := Ground.phase }, { on := 2, ground := Ground.phase }, { on := 3, ground := Ground.phase }, { on := 4, ground := Ground.phase }, { on := 5, ground := Ground.phase }, { on := 6, ground := Ground.phase }, { on := 7, ground := Ground.phase }, { on := 8, ground := Ground.phase }, { on := 9, ground := Ground.phase }], guard := none }) (v := ?_) rfl (by kernel_rfl) (by kernel_rfl) (by kernel_rfl) (fun _ _ _ h => h) (Or.inl ⟨by rfl, ?_⟩) hHeld ?_
  rotate_left
  · intro w hSw
    obtain ⟨nd, rfl⟩ := hSw
    go_simp
    try with_reducible rfl
  try simp only [Act.put, List.setIfInBounds_toArray, List.set_cons_zero, List.set_cons_succ]
  refine wpAnyH_done (by kernel_rfl) ?_ _
  clear hHeld
  go_wp2_with fail
  go_ret2
  exact ⟨rfl, below_drewN HA2.out 1⟩




/-- what Take does for a key that has none -/
def TakeNew (w : World) (b m1 m2 low high : Nat) (S : List (LK × Nat)) (k : LK) (e : Ending) (w' : World) : Prop :=
  (∃ n, low ≤ n ∧ n ≤ high ∧ (∀ q, low ≤ q → q < n → ∃ p ∈ S, p.2 = q) ∧ (∀ p ∈ S, p.2 ≠ n) ∧ e = .returned (.tuple #[.int .u32 n, .int .i64 0]) ∧ LabAt w' b m1 m2 low high (S ++ [(k, n)]) ∧ GrownX (fun i => i = m1 ∨ i = m2) w w') ∨
  ((∀ q, low ≤ q → q ≤ high → ∃ p ∈ S, p.2 = q) ∧ e = .returned (.tuple #[.int .u32 0, .int .i64 7]) ∧ Below w.heap.size w w')
theorem LK.agg (k : LK) : k.v = .agg #[.string k.vrf, .int .i64 k.fam, .int .u64 k.rd, .string k.addr, .int .i64 k.len] := rfl

set_option maxHeartbeats 4000000 in
theorem take_new (w : World) (b m1 m2 low high : Nat) (S : List (LK × Nat)) (k : LK) (h : LabAt w b m1 m2 low high S) (hk : k.Ok) (hm : kmay k = true) (hj : ∀ p ∈ S, p.1 ≠ k) :
    Calls Try.prog 9 #[.pointer (some ⟨b, 0, none⟩), k.v] w (TakeNew w b m1 m2 low high S k) := by
  have hlo := h.lo
  have hlh := h.lh
  have hhi := h.hi
  obtain ⟨N0, N5, N6⟩ := h.n1, h.n2, h.n3
  obtain ⟨l0, l1, l2⟩ := h.lt
  obtain ⟨kl, hkl⟩ := lk_key k hk
  have lb := h.lt.1
  have hA := Below.alloc (Below.refl w.heap.size w) (Nat.le_refl _) (.cells #[.string k.vrf, .int .i64 k.fam, .int .u64 k.rd, .string k.addr, .int .i64 k.len] 34)
  have HL := Lib.hid (h.below hA (Nat.le_refl _))
  have HK := Lib.hid (CellsAt.new w #[.string k.vrf, .int .i64 k.fam, .int .u64 k.rd, .string k.addr, .int .i64 k.len] 34)
  have HA := Lib.hid hA
  have HM := Lib.hid (fun w => may_any k hk w)
  rw [hm] at HM
  clear hm
  have HJ := Lib.hid hj
  have HKL := Lib.hid hkl
  have HKO := Lib.hid hk
  clear hA hj hkl hk h
  unfold LK.v at HM ⊢
  generalize hw0 : w.alloc (.cells #[.string k.vrf, .int .i64 k.fam, .int .u64 k.rd, .string k.addr, .int .i64 k.len] 34) = w0 at HL HK HA
  have hz0 : w0.heap.size = w.heap.size + 1 := by rw [← hw0]; simp
  obtain ⟨c0, c1, c2, c3⟩ := HL.out.c
  obtain ⟨k0, k1, k2, k3, k4⟩ := HK.out.c5
  go_enter Try.func9, Try.ntmps9
  go_wp2_with fail
  clear hw0
  refine (none_any b m1 _ c2).mono ?_
  rintro e w1 ⟨rfl, rfl⟩
  go_wp2_with fail
  refine (HM.out _).mono ?_
  rintro e w2 ⟨rfl, hb⟩
  have HL2 := Lib.hid (HL.out.below hb (Nat.le_refl _))
  have HK2 := Lib.hid (HK.out.below hb (by omega))
  have HA2 := Lib.hid (HA.out.trans (hb.mono (by omega)))
  have hz2 : w.heap.size + 1 ≤ w2.heap.size := by have := hb.size; omega
  clear hb HL HK HA c0 c1 c2 c3 k0 k1 k2 k3 k4
  obtain ⟨c0, c1, c2, c3⟩ := HL2.out.c
  obtain ⟨k0, k1, k2, k3, k4⟩ := HK2.out.c5
  have hlk := fun nd => (HL2.out.of.drew nd).lookup_none (t := 57) lkLaw Try.underlying57 (zero_u32 _) HKL.out (ofL_no HJ.out)
  unfold LK.v at hlk
  go_wp2_with fail
  refine wp_region_held_drew (S := fun w' => ∃ n, w' = w2.drewN n) (by kernel_rfl) (⟨1, rfl⟩) (fun hHeld => ?_)
  refine wpAnyH_take (i := 0) (oi := { dst := some 19, op := Op.move (Operand.tmp 0), type := 23, pos := "label.go:46", after := #[], guard := none }) (v := ?_) rfl (by kernel_rfl) (by kernel_rfl) (by kernel_rfl) (fun _ _ _ h => h) (Or.inl ⟨by rfl, ?_⟩) hHeld ?_
  rotate_left
  · intro w hSw
    obtain ⟨nd, rfl⟩ := hSw
    go_simp
    try with_reducible rfl
  try simp only [Act.put, List.setIfInBounds_toArray, List.set_cons_zero, List.set_cons_succ]
  refine wpAnyH_take (i := 1) (oi := { dst := some 20, op := Op.nilCheck (Operand.tmp 19), type := 0, pos := "label.go:46", after := #[{ on := 0, ground := Ground.data }], guard := none }) (v := ?_) rfl (by kernel_rfl) (by kernel_rfl) (by kernel_rfl) (fun _ _ _ h => h) (Or.inl ⟨by rfl, ?_⟩) hHeld ?_
  rotate_left
  · intro w hSw
    obtain ⟨nd, rfl⟩ := hSw
    go_simp
    try with_reducible rfl
  try simp only [Act.put, List.setIfInBounds_toArray, List.set_cons_zero, List.set_cons_succ]
  refine wpAnyH_take (i := 2) (oi := { dst := some 21, op := Op.fieldAddr 60 (Operand.tmp 20) 2, type := 0, pos := "label.go:46", after := #[{ on := 1, ground := Ground.data }], guard := none }) (v := ?_) rfl (by kernel_rfl) (by kernel_rfl) (by kernel_rfl) (fun _ _ _ h => h) (Or.inl ⟨by rfl, ?_⟩) hHeld ?_
  rotate_left
  · intro w hSw
    obtain ⟨nd, rfl⟩ := hSw
    go_simp
    try with_reducible rfl
  try simp only [Act.put, List.setIfInBounds_toArray, List.set_cons_zero, List.set_cons_succ]
  refine wpAnyH_take (i := 3) (oi := { dst := some 22, op := Op.load 57 (Operand.tmp 21), type := 57, pos := "label.go:46", after := #[{ on := 2, ground := Ground.data }], guard := none }) (v := ?_) rfl (by kernel_rfl) (by kernel_rfl) (by kernel_rfl) (fun _ _ _ h => h) (Or.inl ⟨by rfl, ?_⟩) hHeld ?_
  rotate_left
  · intro w hSw
    obtain ⟨nd, rfl⟩ := hSw
    go_simp
    try with_reducible rfl
  try simp only [Act.put, List.setIfInBounds_toArray, List.set_cons_zero, List.set_cons_succ]
  refine wpAnyH_take (i := 4) (oi := { dst := some 23, op := Op.load 34 (Operand.tmp 3), type := 34, pos := "label.go:46", after := #[], guard := none }) (v := ?_) rfl (by kernel_rfl) (by kernel_rfl) (by kernel_rfl) (fun _ _ _ h => h) (Or.inl ⟨by rfl, ?_⟩) hHeld ?_
  rotate_left
  · intro w hSw
    obtain ⟨nd, rfl⟩ := hSw
    go_simp
    try with_reducible rfl
  try simp only [Act.put, List.setIfInBounds_toArray, List.set_cons_zero, List.set_cons_succ]
  refine wpAnyH_take (i := 5) (oi := { dst := some 24, op := Op.lookup 57 (Operand.tmp 22) (Operand.tmp 23) true, type := 40, pos := "label.go:46", after := #[{ on := 3, ground := Ground.data }, { on := 4, ground := Ground.data }], guard := none }) (v := ?_) rfl (by kernel_rfl) (by kernel_rfl) (by kernel_rfl) (fun _ _ _ h => h) (Or.inl ⟨by rfl, ?_⟩) hHeld ?_
  rotate_left
  · intro w hSw
    obtain ⟨nd, rfl⟩ := hSw
    go_simp
    try with_reducible rfl
  try simp only [Act.put, List.setIfInBounds_toArray, List.set_cons_zero, List.set_cons_succ]
  refine wpAnyH_take (i := 6) (oi := { dst := some 18, op := Op.move (Operand.tmp 24), type := 40, pos := "label.go:46", after := #[{ on := 5, ground := Ground.data }], guard := none }) (v := ?_) rfl (by kernel_rfl) (by kernel_rfl) (by kernel_rfl) (fun _ _ _ h => h) (Or.inl ⟨by rfl, ?_⟩) hHeld ?_
  rotate_left
  · intro w hSw
    obtain ⟨nd, rfl⟩ := hSw
    go_simp
    try with_reducible rfl
  try simp only [Act.put, List.setIfInBounds_toArray, List.set_cons_zero, List.set_cons_succ]
  refine wpAnyH_take (i := 7) (oi := { dst := some 25, op := Op.extract (Operand.tmp 18) 0, type := 27, pos := "label.go:46", after := #[{ on := 6, ground := Ground.data }], guard := none }) (v := ?_) rfl (by kernel_rfl) (by kernel_rfl) (by kernel_rfl) (fun _ _ _ h => h) (Or.inl ⟨by rfl, ?_⟩) hHeld ?_
  rotate_left
  · intro w hSw
    obtain ⟨nd, rfl⟩ := hSw
    go_simp
    try with_reducible rfl
  try simp only [Act.put, List.setIfInBounds_toArray, List.set_cons_zero, List.set_cons_succ]
  refine wpAnyH_take (i := 8) (oi := { dst := some 26, op := Op.extract (Operand.tmp 18) 1, type := 4, pos := "label.go:46", after := #[{ on := 6, ground := Ground.data }, { on := 9, ground := Ground.gcOnly Departure.lateStores }], guard := none }) (v := ?_) rfl (by kernel_rfl) (by kernel_rfl) (by kernel_rfl) (fun _ _ _ h => h) (Or.inl ⟨by rfl, ?_⟩) hHeld ?_
  rotate_left
  · intro w hSw
    obtain ⟨nd, rfl⟩ := hSw
    go_simp
    try with_reducible rfl
  try simp only [Act.put, List.setIfInBounds_toArray, List.set_cons_zero, List.set_cons_succ]
  refine wpAnyH_take (i := 9) (oi := { dst := some 6, op := Op.assign (Operand.tmp 25), type := 27, pos := "label.go:46", after := #[{ on := 7, ground := Ground.data }, { on := 0, ground := Ground.phase }, { on := 1, ground := Ground.phase }, { on := 2, ground := Ground.phase }, { on := 3, ground := Ground.phase }, { on := 4, ground := Ground.phase }, { on := 5, ground := Ground.phase }, { on := 6, ground := Ground.phase }, { on := 7, ground := Ground.phase }, { on := 8, ground := Ground.textOnly Departure.lateStores }], guard := none }) (v := ?_) rfl (by kernel_rfl) (by kernel_rfl) (by kernel_rfl) (fun _ _ _ h => h) (Or.inl ⟨by rfl, ?_⟩) hHeld ?_
  rotate_left
  · intro w hSw
    obtain ⟨nd, rfl⟩ := hSw
    go_simp
    try with_reducible rfl
  try simp only [Act.put, List.setIfInBounds_toArray, List.set_cons_zero, List.set_cons_succ]
  refine wpAnyH_take (i := 10) (oi := { dst := some 7, op := Op.assign (Operand.tmp 26), type := 4, pos := "label.go:46", after := #[{ on := 8, ground := Ground.data }, { on := 9, ground := Ground.chain }, { on := 0, ground := Ground.phase }, { on := 1, ground := Ground.phase }, { on := 2, ground := Ground.phase }, { on := 3, ground := Ground.phase }, { on := 4, ground := Ground.phase }, { on := 5, ground := Ground.phase }, { on := 6, ground := Ground.phase }, { on := 7, ground := Ground.phase }, { on := 8, ground := Ground.phase }, { on := 9, ground := Ground.phase }], guard := none }) (v := ?_) rfl (by kernel_rfl) (by kernel_rfl) (by kernel_rfl) (fun _ _ _ h => h) (Or.inl ⟨by rfl, ?_⟩) hHeld ?_
  rotate_left
  · intro w hSw
    obtain ⟨nd, rfl⟩ := hSw
    go_simp
    try with_reducible rfl
  try simp only [Act.put, List.setIfInBounds_toArray, List.set_cons_zero, List.set_cons_succ]
  refine wpAnyH_done (by kernel_rfl) ?_ _
  clear hHeld hlk c0 c1 c2 c3 k0 k1 k2 k3 k4
  have HL3 : Hid (LabAt w2.drew b m1 m2 low high S) := HL2.out.drew 1
  have HK3 : Hid (CellsAt w2.drew w.heap.size #[.string k.vrf, .int .i64 k.fam, .int .u64 k.rd, .string k.addr, .int .i64 k.len] 34) := HK2.out.drew 1
  have HA3 : Hid (Below w.heap.size w w2.drew ∧ w.heap.size + 1 ≤ w2.drew.heap.size) := ⟨below_drewN HA2.out 1, hz2⟩
  clear HL2 HK2 HA2 hz2
  generalize w2.drew = w3 at HL3 HK3 HA3 ⊢
  obtain ⟨c0, c1, c2, c3⟩ := HL3.out.c
  go_wp2_with fail
  clear c0 c1 c2 c3
  go_loopw [8] (fun i wr => ∃ n : Nat, low ≤ n ∧ n ≤ high + 1 ∧ i = .int .u32 n ∧ Hid (∀ q, low ≤ q → q < n → ∃ p ∈ S, p.2 = q) ∧ Hid (LabAt wr b m1 m2 low high S) ∧ Hid (CellsAt wr w.heap.size #[.string k.vrf, .int .i64 k.fam, .int .u64 k.rd, .string k.addr, .int .i64 k.len] 34) ∧ Hid (Below w.heap.size w wr ∧ w.heap.size + 1 ≤ wr.heap.size)) (fun i _ => high + 2 - (intOf i).toNat)
  case atStart => exact ⟨low, Nat.le_refl _, by omega, rfl, fun q h1 h2 => absurd h1 (by omega), HL3.out, HK3.out, HA3.out⟩
  case round =>
    obtain ⟨n, n0, n1, rfl, HT, HL, HK, HA⟩ := hrel
    clear HL3 HK3 HA3
    obtain ⟨c0, c1, c2, c3⟩ := HL.out.c
    obtain ⟨k0, k1, k2, k3, k4⟩ := HK.out.c5
    by_cases hlt : n ≤ high
    · have hn : n < 4294967296 := by omega
      by_cases ht : ∃ p ∈ S, p.2 = n
      · obtain ⟨⟨k', n'⟩, hp, hpn⟩ := ht
        simp only at hpn
        subst hpn
        obtain ⟨j, hj2⟩ := List.getElem?_of_mem hp
        have hlk := HL.out.key.lookup_some (t := 58) u32Law Try.underlying58 (zero_lk _) (u32_key n' hn) (keyL_at hj2)
        unfold LK.v at hlk
        have HT2 : Hid (∀ q, low ≤ q → q < n' + 1 → ∃ p ∈ S, p.2 = q) := fun q h1 h2 => by
          by_cases hq : q = n'
          · exact ⟨_, hp, hq.symm⟩
          · exact HT.out q h1 (by omega)
        clear hp hj2 HT
        go_wp2_with fail
        refine ⟨⟨n' + 1, by omega, by omega, by go_num, HT2, HL.out.below (by go_grown) (Nat.le_refl _), HK.out.below (by go_grown) HK.out.lt, ⟨HA.out.1.trans (Below.mono (by go_grown) HA.out.1.size), ?_⟩⟩, by simp [intOf]; omega⟩
        have := HA.out.2
        simp
        omega
      · have hnt : ∀ p ∈ S, p.2 ≠ n := fun p hp e => ht ⟨p, hp, e⟩
        have hlk := HL.out.key.lookup_none (t := 58) u32Law Try.underlying58 (zero_lk _) (u32_key n hn) (keyL_no hnt)
        rw [show noKey.v = .agg #[.string ByteArray.empty, .int .i64 0, .int .u64 0, .string ByteArray.empty, .int .i64 0] from rfl] at hlk
        have HNT := Lib.hid hnt
        clear hnt ht
        go_wp2_with fail
        have HLW := Lib.hid (HL.out.below (Below.alloc (Below.refl wr.heap.size wr) (Nat.le_refl _) (.cells #[.string ByteArray.empty, .int .i64 0, .int .u64 0, .string ByteArray.empty, .int .i64 0] 34)) (Nat.le_refl _))
        have HKW := Lib.hid (HK.out.alloc (.cells #[.string ByteArray.empty, .int .i64 0, .int .u64 0, .string ByteArray.empty, .int .i64 0] 34))
        have HAW := Lib.hid (HA.out.1.trans (Below.mono (Below.alloc (Below.refl wr.heap.size wr) (Nat.le_refl _) (.cells #[.string ByteArray.empty, .int .i64 0, .int .u64 0, .string ByteArray.empty, .int .i64 0] 34)) HA.out.1.size))
        clear hlk c0 c1 c2 c3 k0 k1 k2 k3 k4 HL HK HA
        generalize wr.alloc (.cells #[.string ByteArray.empty, .int .i64 0, .int .u64 0, .string ByteArray.empty, .int .i64 0] 34) = W at HLW HKW HAW ⊢
        obtain ⟨N1, N2⟩ := HLW.out.n1, HLW.out.n2
        have N3 : w.heap.size ≠ m1 := by omega
        have N4 : w.heap.size ≠ m2 := by omega
        have hof : MapAt Try.prog 34 W.drew m1 (ofL S) := HLW.out.of.drew 1
        have hky : MapAt Try.prog 27 W.drew m2 (keyL S) := HLW.out.key.drew 1
        obtain ⟨st1, W1, e1, g1, E1⟩ := hof.entry_new (t := 57) lkLaw Try.underlying57 (zero_u32 _) HKL.out (ofL_no HJ.out)
        obtain ⟨W2, e2, g2, M1⟩ := E1 W1 (.int .u32 n) rfl
        have hm2 : MapAt Try.prog 27 W2 m2 (keyL S) := (hky.grownBy g1 (fun e => N6 (by injection e with e; exact e.symm))).grownBy g2 (fun e => N6 (by injection e with e; exact e.symm))
        obtain ⟨st2, W3, e3, g3, E3⟩ := hm2.entry_new (t := 58) u32Law Try.underlying58 (zero_lk _) (u32_key n hn) (keyL_no HNT.out)
        obtain ⟨W4, e4, g4, M2⟩ := E3 W3 (.agg #[.string k.vrf, .int .i64 k.fam, .int .u64 k.rd, .string k.addr, .int .i64 k.len]) rfl
        have M1' : MapAt Try.prog 34 W4 m1 (ofL (S ++ [(k, n)])) := by
          have h := (M1.grownBy g3 (fun e => N6 (by injection e))).grownBy g4 (fun e => N6 (by injection e))
          simpa [ofL] using h
        have M2' : MapAt Try.prog 27 W4 m2 (keyL (S ++ [(k, n)])) := by
          simpa [keyL, LK.v] using M2
        have B' := (((HLW.out.cells.drew 1).row g1 N1).row g2 N1).row g3 N2 |>.row g4 N2
        have G : GrownX (fun i => i = m1 ∨ i = m2) W.drew W4 :=
          (((GrownX.of_row g1 (Or.inl rfl)).trans (GrownX.of_row g2 (Or.inl rfl))).trans (GrownX.of_row g3 (Or.inr rfl))).trans (GrownX.of_row g4 (Or.inr rfl))
        have G' : GrownX (fun i => i = m1 ∨ i = m2) w W4 := (GrownX.of_below (below_drewN HAW.out 1)).trans G
        have hok : ∀ p ∈ S ++ [(k, n)], p.1.Ok ∧ low ≤ p.2 ∧ p.2 ≤ high := fun p hp => by
          rcases List.mem_append.1 hp with hp | hp
          · exact HLW.out.ok p hp
          · simp at hp
            subst hp
            exact ⟨HKO.out, n0, hlt⟩
        have hF : LabAt W4 b m1 m2 low high (S ++ [(k, n)]) := ⟨B', M1', M2', N1, N2, N6, hok, hlo, hlh, hhi⟩
        rw [LK.agg] at e1
        rw [show noKey.v = .agg #[.string ByteArray.empty, .int .i64 0, .int .u64 0, .string ByteArray.empty, .int .i64 0] from rfl] at e3
        have HF := Lib.hid hF
        have HG := Lib.hid G'
        clear hof hky E1 E3 M1 M2 M1' M2' B' G G' hF hm2
        refine wp_region_held_drew (S := fun w' => CellsAt w' b #[.int .u32 low, .int .u32 high, .map (some m1), .map (some m2)] 60 ∧ CellsAt w' w.heap.size #[.string k.vrf, .int .i64 k.fam, .int .u64 k.rd, .string k.addr, .int .i64 k.len] 34) (by kernel_rfl) (And.intro (HLW.out.cells.drew 1) (HKW.out.drew 1)) (fun hHeld => ?_)
        refine wpAnyH_take (i := 0) (oi := { dst := some 52, op := Op.move (Operand.tmp 0), type := 23, pos := "label.go:51", after := #[], guard := none }) (v := ?_) rfl (by kernel_rfl) (by kernel_rfl) (by kernel_rfl) (fun _ _ _ h => h) (Or.inl ⟨by rfl, ?_⟩) hHeld ?_
        rotate_left
        · intro w hSw
          clear hSw
          go_simp
          try with_reducible rfl
        try simp only [Act.put, List.setIfInBounds_toArray, List.set_cons_zero, List.set_cons_succ]
        refine wpAnyH_take (i := 1) (oi := { dst := some 53, op := Op.nilCheck (Operand.tmp 52), type := 0, pos := "label.go:51", after := #[{ on := 0, ground := Ground.data }], guard := none }) (v := ?_) rfl (by kernel_rfl) (by kernel_rfl) (by kernel_rfl) (fun _ _ _ h => h) (Or.inl ⟨by rfl, ?_⟩) hHeld ?_
        rotate_left
        · intro w hSw
          clear hSw
          go_simp
          try with_reducible rfl
        try simp only [Act.put, List.setIfInBounds_toArray, List.set_cons_zero, List.set_cons_succ]
        refine wpAnyH_take (i := 2) (oi := { dst := some 54, op := Op.fieldAddr 60 (Operand.tmp 53) 2, type := 0, pos := "label.go:51", after := #[{ on := 1, ground := Ground.data }], guard := none }) (v := ?_) rfl (by kernel_rfl) (by kernel_rfl) (by kernel_rfl) (fun _ _ _ h => h) (Or.inl ⟨by rfl, ?_⟩) hHeld ?_
        rotate_left
        · intro w hSw
          clear hSw
          go_simp
          try with_reducible rfl
        try simp only [Act.put, List.setIfInBounds_toArray, List.set_cons_zero, List.set_cons_succ]
        refine wpAnyH_take (i := 3) (oi := { dst := some 55, op := Op.load 57 (Operand.tmp 54), type := 57, pos := "label.go:51", after := #[{ on := 2, ground := Ground.data }], guard := none }) (v := ?_) rfl (by kernel_rfl) (by kernel_rfl) (by kernel_rfl) (fun _ _ _ h => h) (Or.inl ⟨by rfl, ?_⟩) hHeld ?_
        rotate_left
        · intro w hSw
          obtain ⟨q1, q2⟩ := hSw
          obtain ⟨c0, c1, c2, c3⟩ := q1.c4
          obtain ⟨k0, k1, k2, k3, k4⟩ := q2.c5
          go_simp
          try with_reducible rfl
        try simp only [Act.put, List.setIfInBounds_toArray, List.set_cons_zero, List.set_cons_succ]
        refine wpAnyH_take (i := 4) (oi := { dst := some 56, op := Op.load 34 (Operand.tmp 3), type := 34, pos := "label.go:51", after := #[], guard := none }) (v := ?_) rfl (by kernel_rfl) (by kernel_rfl) (by kernel_rfl) (fun _ _ _ h => h) (Or.inl ⟨by rfl, ?_⟩) hHeld ?_
        rotate_left
        · intro w hSw
          obtain ⟨q1, q2⟩ := hSw
          obtain ⟨c0, c1, c2, c3⟩ := q1.c4
          obtain ⟨k0, k1, k2, k3, k4⟩ := q2.c5
          go_simp
          try with_reducible rfl
        try simp only [Act.put, List.setIfInBounds_toArray, List.set_cons_zero, List.set_cons_succ]
        refine wpAnyH_take (i := 5) (oi := { dst := some 57, op := Op.move (Operand.tmp 0), type := 23, pos := "label.go:51", after := #[], guard := none }) (v := ?_) rfl (by kernel_rfl) (by kernel_rfl) (by kernel_rfl) (fun _ _ _ h => h) (Or.inl ⟨by rfl, ?_⟩) hHeld ?_
        rotate_left
        · intro w hSw
          clear hSw
          go_simp
          try with_reducible rfl
        try simp only [Act.put, List.setIfInBounds_toArray, List.set_cons_zero, List.set_cons_succ]
        refine wpAnyH_take (i := 6) (oi := { dst := some 58, op := Op.nilCheck (Operand.tmp 57), type := 0, pos := "label.go:51", after := #[{ on := 5, ground := Ground.data }], guard := none }) (v := ?_) rfl (by kernel_rfl) (by kernel_rfl) (by kernel_rfl) (fun _ _ _ h => h) (Or.inl ⟨by rfl, ?_⟩) hHeld ?_
        rotate_left
        · intro w hSw
          clear hSw
          go_simp
          try with_reducible rfl
        try simp only [Act.put, List.setIfInBounds_toArray, List.set_cons_zero, List.set_cons_succ]
        refine wpAnyH_take (i := 7) (oi := { dst := some 59, op := Op.fieldAddr 60 (Operand.tmp 58) 3, type := 0, pos := "label.go:51", after := #[{ on := 6, ground := Ground.data }], guard := none }) (v := ?_) rfl (by kernel_rfl) (by kernel_rfl) (by kernel_rfl) (fun _ _ _ h => h) (Or.inl ⟨by rfl, ?_⟩) hHeld ?_
        rotate_left
        · intro w hSw
          clear hSw
          go_simp
          try with_reducible rfl
        try simp only [Act.put, List.setIfInBounds_toArray, List.set_cons_zero, List.set_cons_succ]
        refine wpAnyH_take (i := 8) (oi := { dst := some 60, op := Op.load 58 (Operand.tmp 59), type := 58, pos := "label.go:51", after := #[{ on := 7, ground := Ground.data }], guard := none }) (v := ?_) rfl (by kernel_rfl) (by kernel_rfl) (by kernel_rfl) (fun _ _ _ h => h) (Or.inl ⟨by rfl, ?_⟩) hHeld ?_
        rotate_left
        · intro w hSw
          obtain ⟨q1, q2⟩ := hSw
          obtain ⟨c0, c1, c2, c3⟩ := q1.c4
          obtain ⟨k0, k1, k2, k3, k4⟩ := q2.c5
          go_simp
          try with_reducible rfl
        try simp only [Act.put, List.setIfInBounds_toArray, List.set_cons_zero, List.set_cons_succ]
        refine wpAnyH_take (i := 9) (oi := { dst := some 61, op := Op.move (Operand.tmp 8), type := 27, pos := "label.go:51", after := #[{ on := 14, ground := Ground.gcOnly Departure.lateStores }], guard := none }) (v := ?_) rfl (by kernel_rfl) (by kernel_rfl) (by kernel_rfl) (fun _ _ _ h => h) (Or.inl ⟨by rfl, ?_⟩) hHeld ?_
        rotate_left
        · intro w hSw
          clear hSw
          go_simp
          try with_reducible rfl
        try simp only [Act.put, List.setIfInBounds_toArray, List.set_cons_zero, List.set_cons_succ]
        refine wpAnyH_take (i := 10) (oi := { dst := some 62, op := Op.move (Operand.tmp 8), type := 27, pos := "label.go:51", after := #[{ on := 12, ground := Ground.gcOnly Departure.tupleMapEntryFirst }], guard := none }) (v := ?_) rfl (by kernel_rfl) (by kernel_rfl) (by kernel_rfl) (fun _ _ _ h => h) (Or.inl ⟨by rfl, ?_⟩) hHeld ?_
        rotate_left
        · intro w hSw
          clear hSw
          go_simp
          try with_reducible rfl
        try simp only [Act.put, List.setIfInBounds_toArray, List.set_cons_zero, List.set_cons_succ]
        refine wpAnyH_take (i := 11) (oi := { dst := some 63, op := Op.load 34 (Operand.tmp 3), type := 34, pos := "label.go:51", after := #[{ on := 14, ground := Ground.gcOnly Departure.lateStores }, { on := 15, ground := Ground.gcOnly Departure.tupleMapEntryFirst }], guard := none }) (v := ?_) rfl (by kernel_rfl) (by kernel_rfl) (by kernel_rfl) (fun _ _ _ h => h) (Or.inl ⟨by rfl, ?_⟩) hHeld ?_
        rotate_left
        · intro w hSw
          obtain ⟨q1, q2⟩ := hSw
          obtain ⟨c0, c1, c2, c3⟩ := q1.c4
          obtain ⟨k0, k1, k2, k3, k4⟩ := q2.c5
          go_simp
          try with_reducible rfl
        try simp only [Act.put, List.setIfInBounds_toArray, List.set_cons_zero, List.set_cons_succ]
        refine wpAnyH_ready (rs := [12]) (by kernel_rfl) (by simp) ?_
        refine AllReadyH.cons (o := { dst := some 64, op := Op.mapEntry 57 (Operand.tmp 55) (Operand.tmp 56), type := 0, pos := "label.go:51", after := #[{ on := 3, ground := Ground.data }, { on := 4, ground := Ground.data }, { on := 0, ground := Ground.textOnly Departure.tupleMapEntryFirst }, { on := 1, ground := Ground.textOnly Departure.tupleMapEntryFirst }, { on := 2, ground := Ground.textOnly Departure.tupleMapEntryFirst }, { on := 3, ground := Ground.textOnly Departure.tupleMapEntryFirst }, { on := 4, ground := Ground.textOnly Departure.lateStoresUnsure }, { on := 5, ground := Ground.textOnly Departure.lateStores }, { on := 6, ground := Ground.textOnly Departure.lateStoresUnsure }, { on := 7, ground := Ground.textOnly Departure.lateStoresUnsure }, { on := 8, ground := Ground.phase }, { on := 9, ground := Ground.textOnly Departure.lateStores }, { on := 10, ground := Ground.textOnly Departure.tupleMapEntryFirst }, { on := 11, ground := Ground.textOnly Departure.lateStores }], guard := none }) rfl (fun K hK => ?_) AllReadyH.nil
        go_simp
        skip
        refine hK.out _ _ (And.intro (hHeld.1.row g1 N1) (hHeld.2.row g1 N3)) (fun hHeld => ?_)
        clear hK K
        try simp only [Act.put, List.setIfInBounds_toArray, List.set_cons_zero, List.set_cons_succ]
        refine wpAnyH_take (i := 13) (oi := { dst := some 65, op := Op.extract (Operand.tmp 64) 1, type := 3, pos := "label.go:51", after := #[{ on := 12, ground := Ground.data }], guard := none }) (v := ?_) rfl (by kernel_rfl) (by kernel_rfl) (by kernel_rfl) (fun _ _ _ h => h) (Or.inl ⟨by rfl, ?_⟩) hHeld ?_
        rotate_left
        · intro w hSw
          clear hSw
          go_simp
          try with_reducible rfl
        try simp only [Act.put, List.setIfInBounds_toArray, List.set_cons_zero, List.set_cons_succ]
        refine wpAnyH_ready (rs := [14]) (by kernel_rfl) (by simp) ?_
        refine AllReadyH.cons (o := { dst := none, op := Op.entryStore 57 (Operand.tmp 55) (Operand.tmp 65) (Operand.tmp 62), type := 0, pos := "label.go:51", after := #[{ on := 3, ground := Ground.data }, { on := 13, ground := Ground.data }, { on := 10, ground := Ground.data }, { on := 12, ground := Ground.chain }, { on := 0, ground := Ground.phase }, { on := 1, ground := Ground.phase }, { on := 2, ground := Ground.phase }, { on := 3, ground := Ground.phase }, { on := 4, ground := Ground.phase }, { on := 5, ground := Ground.textOnly Departure.lateStores }, { on := 6, ground := Ground.textOnly Departure.lateStoresUnsure }, { on := 7, ground := Ground.textOnly Departure.lateStoresUnsure }, { on := 8, ground := Ground.phase }, { on := 9, ground := Ground.textOnly Departure.lateStores }, { on := 10, ground := Ground.phase }, { on := 11, ground := Ground.textOnly Departure.lateStores }, { on := 12, ground := Ground.phase }], guard := none }) rfl (fun K hK => ?_) AllReadyH.nil
        go_simp
        skip
        refine hK.out _ _ (And.intro (hHeld.1.row g2 N1) (hHeld.2.row g2 N3)) (fun hHeld => ?_)
        clear hK K
        try simp only [Act.put, List.setIfInBounds_toArray, List.set_cons_zero, List.set_cons_succ]
        refine wpAnyH_ready (rs := [15]) (by kernel_rfl) (by simp) ?_
        refine AllReadyH.cons (o := { dst := some 66, op := Op.mapEntry 58 (Operand.tmp 60) (Operand.tmp 61), type := 0, pos := "label.go:51", after := #[{ on := 8, ground := Ground.data }, { on := 9, ground := Ground.data }, { on := 14, ground := Ground.chain }, { on := 0, ground := Ground.phase }, { on := 1, ground := Ground.phase }, { on := 2, ground := Ground.phase }, { on := 3, ground := Ground.phase }, { on := 4, ground := Ground.phase }, { on := 5, ground := Ground.textOnly Departure.tupleMapEntryFirst }, { on := 6, ground := Ground.textOnly Departure.lateStoresUnsure }, { on := 7, ground := Ground.textOnly Departure.lateStoresUnsure }, { on := 8, ground := Ground.phase }, { on := 9, ground := Ground.textOnly Departure.tupleMapEntryFirst }, { on := 10, ground := Ground.phase }, { on := 11, ground := Ground.textOnly Departure.tupleMapEntryFirst }, { on := 12, ground := Ground.phase }, { on := 13, ground := Ground.phase }, { on := 14, ground := Ground.phase }], guard := none }) rfl (fun K hK => ?_) AllReadyH.nil
        go_simp
        skip
        refine hK.out _ _ (And.intro (hHeld.1.row g3 N2) (hHeld.2.row g3 N4)) (fun hHeld => ?_)
        clear hK K
        try simp only [Act.put, List.setIfInBounds_toArray, List.set_cons_zero, List.set_cons_succ]
        refine wpAnyH_take (i := 16) (oi := { dst := some 67, op := Op.extract (Operand.tmp 66) 1, type := 3, pos := "label.go:51", after := #[{ on := 15, ground := Ground.data }], guard := none }) (v := ?_) rfl (by kernel_rfl) (by kernel_rfl) (by kernel_rfl) (fun _ _ _ h => h) (Or.inl ⟨by rfl, ?_⟩) hHeld ?_
        rotate_left
        · intro w hSw
          clear hSw
          go_simp
          try with_reducible rfl
        try simp only [Act.put, List.setIfInBounds_toArray, List.set_cons_zero, List.set_cons_succ]
        refine wpAnyH_ready (rs := [17]) (by kernel_rfl) (by simp) ?_
        refine AllReadyH.cons (o := { dst := none, op := Op.entryStore 58 (Operand.tmp 60) (Operand.tmp 67) (Operand.tmp 63), type := 0, pos := "label.go:51", after := #[{ on := 8, ground := Ground.data }, { on := 16, ground := Ground.data }, { on := 11, ground := Ground.data }, { on := 15, ground := Ground.chain }, { on := 0, ground := Ground.phase }, { on := 1, ground := Ground.phase }, { on := 2, ground := Ground.phase }, { on := 3, ground := Ground.phase }, { on := 4, ground := Ground.phase }, { on := 5, ground := Ground.phase }, { on := 6, ground := Ground.phase }, { on := 7, ground := Ground.phase }, { on := 8, ground := Ground.phase }, { on := 9, ground := Ground.phase }, { on := 10, ground := Ground.phase }, { on := 11, ground := Ground.phase }, { on := 12, ground := Ground.phase }, { on := 13, ground := Ground.phase }, { on := 14, ground := Ground.phase }, { on := 15, ground := Ground.phase }], guard := none }) rfl (fun K hK => ?_) AllReadyH.nil
        go_simp
        skip
        refine hK.out _ _ (And.intro (hHeld.1.row g4 N2) (hHeld.2.row g4 N4)) (fun hHeld => ?_)
        clear hK K
        try simp only [Act.put, List.setIfInBounds_toArray, List.set_cons_zero, List.set_cons_succ]
        refine wpAnyH_done (by kernel_rfl) ?_ _
        clear hHeld e1 e2 e3 e4
        go_wp2_with fail
        go_ret2
        exact Or.inl ⟨n, n0, hlt, HT.out, HNT.out, rfl, HF.out, HG.out⟩
    · obtain rfl : n = high + 1 := by omega
      go_wp2_with fail
      go_ret2
      exact Or.inr ⟨fun q h1 h2 => HT.out q h1 (by omega), rfl, HA.out.1⟩

end Go.Proofs.Ytngehobekmijbaa
