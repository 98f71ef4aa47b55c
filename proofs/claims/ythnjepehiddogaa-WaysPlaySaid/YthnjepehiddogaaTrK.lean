/-
  Contract of trie.set: a fork laid above a tree of prefixes in memory; the whole. Conditions: none.
-/
import Derived.Test.YthnjepehiddogaaTrJ
set_option linter.unusedVariables false
set_option linter.unusedSimpArgs false
namespace Go.Proofs.Ythnjepehiddogaa
open Go.RowKit Go.MapKept

abbrev tO0 : Oper := { dst := some 119, op := Op.move (Operand.tmp 14), type := 68, pos := "trie.go:92", after := #[], guard := none }
abbrev tO1 : Oper := { dst := some 120, op := Op.fieldAddr 30 (Operand.tmp 4) 2, type := 0, pos := "trie.go:92", after := #[], guard := none }
abbrev tO2 : Oper := { dst := some 121, op := Op.load 9 (Operand.tmp 120), type := 9, pos := "trie.go:92", after := #[{ on := 1, ground := Ground.data }], guard := none }
abbrev tO3 : Oper := { dst := some 122, op := Op.move (Operand.tmp 8), type := 3, pos := "trie.go:92", after := #[], guard := none }
abbrev tO4 : Oper := { dst := some 123, op := Op.call { callee := Callee.value (Operand.func 44), args := #[Operand.tmp 121, Operand.tmp 122], argTypes := #[9, 3] }, type := 3, pos := "trie.go:92", after := #[{ on := 2, ground := Ground.data }, { on := 3, ground := Ground.data }], guard := none }
abbrev tO5 : Oper := { dst := some 124, op := Op.load 30 (Operand.tmp 4), type := 30, pos := "trie.go:92", after := #[], guard := none }
abbrev tO6 : Oper := { dst := some 125, op := Op.move (Operand.tmp 2), type := 3, pos := "trie.go:92", after := #[], guard := none }
abbrev tO7 : Oper := { dst := some 126, op := Op.build 76 #[(0, Operand.tmp 124), (1, Operand.const (Value.bool true)), (2, Operand.tmp 125)], type := 76, pos := "trie.go:92", after := #[{ on := 5, ground := Ground.data }, { on := 6, ground := Ground.data }], guard := none }
abbrev tO8 : Oper := { dst := some 127, op := Op.box 76 (Operand.tmp 126), type := 68, pos := "trie.go:92", after := #[{ on := 7, ground := Ground.data }], guard := none }
abbrev tO9 : Oper := { dst := some 128, op := Op.nilCheck (Operand.tmp 119), type := 0, pos := "trie.go:92", after := #[{ on := 0, ground := Ground.data }], guard := none }
abbrev tO10 : Oper := { dst := some 129, op := Op.fieldAddr 76 (Operand.tmp 128) 3, type := 0, pos := "trie.go:92", after := #[{ on := 9, ground := Ground.data }], guard := none }
abbrev tO11 : Oper := { dst := some 130, op := Op.indexAddr 74 (Operand.tmp 129) (Operand.tmp 123), type := 0, pos := "trie.go:92", after := #[{ on := 10, ground := Ground.data }, { on := 4, ground := Ground.data }, { on := 0, ground := Ground.phase }, { on := 1, ground := Ground.phase }, { on := 2, ground := Ground.phase }, { on := 3, ground := Ground.phase }, { on := 4, ground := Ground.phase }, { on := 5, ground := Ground.phase }, { on := 6, ground := Ground.phase }, { on := 7, ground := Ground.phase }, { on := 8, ground := Ground.phase }], guard := none }
abbrev tO12 : Oper := { dst := none, op := Op.store 68 (Operand.tmp 130) (Operand.tmp 127), type := 0, pos := "trie.go:92", after := #[{ on := 11, ground := Ground.data }, { on := 8, ground := Ground.data }, { on := 4, ground := Ground.chain }, { on := 0, ground := Ground.phase }, { on := 1, ground := Ground.phase }, { on := 2, ground := Ground.phase }, { on := 3, ground := Ground.phase }, { on := 4, ground := Ground.phase }, { on := 5, ground := Ground.phase }, { on := 6, ground := Ground.phase }, { on := 7, ground := Ground.phase }, { on := 8, ground := Ground.phase }], guard := none }
set_option maxRecDepth 100000 in
set_option maxHeartbeats 4000000 in
theorem set_up0 (p a : Tp) (hp : p.Ok) (ha : a.Ok) (hf : a.fam = p.fam) (v v0 : Int) (has : Bool) (l r : Tt Int) (b : Nat) (S Sl Sr : List Nat) (ql qr : Value) (w : World) (hn : NodeAt w S b a has v0 l r Sl Sr ql qr) (hk : cmN a p ≠ a.len) (hkp : cmN a p = p.len) (hbit : a.bit (cmN a p) = 0) :
    Calls Try.prog 32 #[.pointer (some ⟨b, 0, none⟩), p.v, .int .i64 v] w (SetPost w S (.node (cutT p (cmN a p)) true v (.node a has v0 l r) .nil) true) := by
  have HCM := Lib.hid (fun w => common_any a p ha hp hf w)
  have hpl := hp.le
  have hal := ha.le
  have hps := hp.small
  have has_ := ha.small
  have HN := Lib.hid hn
  have hblt := hn.c.lt
  obtain ⟨c1, c2, _, _⟩ := cmN_spec a p
  have HCUT := Lib.hid (fun w => cut_any p hp (cmN a p) c2 w)
  have hlta : cmN a p < a.len := by omega
  have HBT := Lib.hid (fun w => pbit_any a.addr (cmN a p) w (by omega) (by omega))
  rw [show bitV a.addr (cmN a p) = 0 from hbit] at HBT
  have e1 : (((cmN a p : Nat) : Int) == (a.len : Int)) = false := by rw [beq_eq_false_iff_ne]; omega
  have e3 : (((cmN a p : Nat) : Int) == (p.len : Int)) = true := by rw [beq_iff_eq]; omega
  have HSB := Lib.hid hn.sub
  clear hk hkp hbit
  generalize cmN a p = K at *
  clear hn hp ha hf
  unfold Tp.v at HCM HCUT ⊢
  unfold cutT at HCUT ⊢
  dsimp only at HCUT ⊢
  go_enter Try.func32, Try.ntmps32
  go_wp2_with fail
  obtain ⟨W0, hW0⟩ : ∃ W, W = w.alloc (.cells #[.int .i64 p.fam, .int .u64 p.rd, .string p.addr, .int .i64 (p.len : Nat)] 30) := ⟨_, rfl⟩
  have HP0 : Hid (CellsAt W0 w.heap.size #[.int .i64 p.fam, .int .u64 p.rd, .string p.addr, .int .i64 (p.len : Nat)] 30) := by rw [hW0]; exact CellsAt.new _ _ _
  have HB0 : Hid (Below w.heap.size w W0) := by
    rw [hW0]
    show Below _ _ _
    exact (Below.refl _ _).alloc (Nat.le_refl _) _
  rw [← hW0]
  clear hW0
  have HN0 : Hid (NodeAt W0 S b a has v0 l r Sl Sr ql qr) := HN.out.below HB0.out
  refine wp_region_held_drew (S := fun w' => Below W0.heap.size W0 w') (by kernel_rfl) (below_drewN (Below.refl _ _) 1) (fun hHeld => ?_)
  refine wpAnyH_take (i := 0) (oi := { dst := some 21, op := Op.move (Operand.tmp 0), type := 68, pos := "trie.go:73", after := #[], guard := none }) (v := ?_) rfl (by kernel_rfl) (by kernel_rfl) (by kernel_rfl) (fun _ _ _ h => h) (Or.inl ⟨by rfl, ?_⟩) hHeld ?_
  rotate_left
  · intro w hSw
    clear hSw
    go_simp
    try with_reducible rfl
  try simp only [Act.put, List.setIfInBounds_toArray, List.set_cons_zero, List.set_cons_succ]
  refine wpAnyH_take (i := 1) (oi := { dst := some 22, op := Op.nilCheck (Operand.tmp 21), type := 0, pos := "trie.go:73", after := #[{ on := 0, ground := Ground.data }], guard := none }) (v := ?_) rfl (by kernel_rfl) (by kernel_rfl) (by kernel_rfl) (fun _ _ _ h => h) (Or.inl ⟨by rfl, ?_⟩) hHeld ?_
  rotate_left
  · intro w hSw
    clear hSw
    go_simp
    try with_reducible rfl
  try simp only [Act.put, List.setIfInBounds_toArray, List.set_cons_zero, List.set_cons_succ]
  refine wpAnyH_take (i := 2) (oi := { dst := some 23, op := Op.fieldAddr 76 (Operand.tmp 22) 0, type := 0, pos := "trie.go:73", after := #[{ on := 1, ground := Ground.data }], guard := none }) (v := ?_) rfl (by kernel_rfl) (by kernel_rfl) (by kernel_rfl) (fun _ _ _ h => h) (Or.inl ⟨by rfl, ?_⟩) hHeld ?_
  rotate_left
  · intro w hSw
    clear hSw
    go_simp
    try with_reducible rfl
  try simp only [Act.put, List.setIfInBounds_toArray, List.set_cons_zero, List.set_cons_succ]
  refine wpAnyH_take (i := 3) (oi := { dst := some 24, op := Op.load 30 (Operand.tmp 23), type := 30, pos := "trie.go:73", after := #[{ on := 2, ground := Ground.data }], guard := none }) (v := ?_) rfl (by kernel_rfl) (by kernel_rfl) (by kernel_rfl) (fun _ _ _ h => h) (Or.inl ⟨by rfl, ?_⟩) hHeld ?_
  rotate_left
  · intro w hSw
    obtain ⟨k0, k1, k2, k3, _⟩ := (HN0.out.below hSw).k
    obtain ⟨p0, p1, p2, p3, _⟩ := c4_at (HP0.out.below hSw HP0.out.lt)
    go_simp
    try with_reducible rfl
  try simp only [Act.put, List.setIfInBounds_toArray, List.set_cons_zero, List.set_cons_succ]
  refine wpAnyH_take (i := 4) (oi := { dst := some 25, op := Op.load 30 (Operand.tmp 4), type := 30, pos := "trie.go:73", after := #[], guard := none }) (v := ?_) rfl (by kernel_rfl) (by kernel_rfl) (by kernel_rfl) (fun _ _ _ h => h) (Or.inl ⟨by rfl, ?_⟩) hHeld ?_
  rotate_left
  · intro w hSw
    obtain ⟨k0, k1, k2, k3, _⟩ := (HN0.out.below hSw).k
    obtain ⟨p0, p1, p2, p3, _⟩ := c4_at (HP0.out.below hSw HP0.out.lt)
    go_simp
    try with_reducible rfl
  try simp only [Act.put, List.setIfInBounds_toArray, List.set_cons_zero, List.set_cons_succ]
  refine wpAnyH_ready (rs := [5]) (by kernel_rfl) (by simp) ?_
  refine AllReadyH.cons (o := { dst := some 26, op := Op.call { callee := Callee.value (Operand.func 43), args := #[Operand.tmp 24, Operand.tmp 25], argTypes := #[30, 30] }, type := 3, pos := "trie.go:73", after := #[{ on := 3, ground := Ground.data }, { on := 4, ground := Ground.data }], guard := none }) rfl (fun K hK => ?_) AllReadyH.nil
  go_simp
  refine (HCM.out _).mono ?_
  rintro e w9 ⟨rfl, hb9⟩
  go_wp2_with fail
  refine hK.out _ _ (hHeld.trans (hb9.mono hHeld.size)) (fun hHeld => ?_)
  clear hK K
  try simp only [Act.put, List.setIfInBounds_toArray, List.set_cons_zero, List.set_cons_succ]
  refine wpAnyH_take (i := 6) (oi := { dst := some 8, op := Op.assign (Operand.tmp 26), type := 3, pos := "trie.go:73", after := #[{ on := 5, ground := Ground.data }, { on := 5, ground := Ground.chain }, { on := 0, ground := Ground.phase }, { on := 1, ground := Ground.phase }, { on := 2, ground := Ground.phase }, { on := 3, ground := Ground.phase }, { on := 4, ground := Ground.phase }, { on := 5, ground := Ground.phase }], guard := none }) (v := ?_) rfl (by kernel_rfl) (by kernel_rfl) (by kernel_rfl) (fun _ _ _ h => h) (Or.inl ⟨by rfl, ?_⟩) hHeld ?_
  rotate_left
  · intro w hSw
    clear hSw
    go_simp
    try with_reducible rfl
  try simp only [Act.put, List.setIfInBounds_toArray, List.set_cons_zero, List.set_cons_succ]
  refine wpAnyH_done (by kernel_rfl) ?_ _
  have HB1 : Hid (Below w.heap.size w w9) := HB0.out.trans (hHeld.mono HB0.out.size)
  have HN1 : Hid (NodeAt w9 S b a has v0 l r Sl Sr ql qr) := HN.out.below HB1.out
  have HP1 : Hid (CellsAt w9 w.heap.size #[.int .i64 p.fam, .int .u64 p.rd, .string p.addr, .int .i64 (p.len : Nat)] 30) := HP0.out.below hHeld HP0.out.lt
  clear hHeld HN0 HP0 HB0 hb9
  obtain ⟨k0, k1, k2, k3, k4, k5, k6, k7, z4, z5, z6, z7⟩ := HN1.out.k
  obtain ⟨p0, p1, p2, p3, _⟩ := c4_at HP1.out
  go_wp2_with fail
  refine (HCUT.out _).mono ?_
  rintro e w3 ⟨rfl, hb3⟩
  have HB3 : Hid (Below w.heap.size w w3) := HB1.out.trans (hb3.mono HB1.out.size)
  have HN3 : Hid (NodeAt w3 S b a has v0 l r Sl Sr ql qr) := HN.out.below HB3.out
  have HP3 : Hid (CellsAt w3 w.heap.size #[.int .i64 p.fam, .int .u64 p.rd, .string p.addr, .int .i64 (p.len : Nat)] 30) := HP1.out.below hb3 HP1.out.lt
  have hlt3 : w.heap.size < w3.heap.size := HP3.out.lt
  clear hb3 HN1 HP1 HB1 k0 k1 k2 k3 k4 k5 k6 k7 z4 z5 z6 z7 p0 p1 p2 p3
  obtain ⟨k0, k1, k2, k3, k4, k5, k6, k7, z4, z5, z6, z7⟩ := HN3.out.k
  obtain ⟨p0, p1, p2, p3, _⟩ := c4_at HP3.out
  go_wp2_with fail
  refine wp_name fun W5 hW5 => ?_
  have HU5 : Hid (CellsAt W5 (w3.heap.size + 1) #[.int .i64 p.fam, .int .u64 p.rd, .string (maskB p.addr (K : Nat)), .int .i64 (K : Nat), .bool false, .int .i64 0, .pointer none, .pointer none] 76) := by
    rw [hW5]
    exact CellsAt.new' _ _ (by simp) _ _
  have HB5 : Hid (Below w3.heap.size w3 W5) := by
    rw [hW5]
    clear hW5 HU5 HP3 HN3 HB3 p0 p1 p2 p3 k0 k1 k2 k3 k4 k5 k6 k7 z4 z5 z6 z7
    show Below _ _ _
    repeat' (first | with_reducible exact Below.refl _ _ | with_reducible refine Below.setCell ?_ (by simp) _ | with_reducible refine Below.alloc ?_ (by simp <;> omega) _)
  clear hW5
  have HP5 : Hid (CellsAt W5 w.heap.size #[.int .i64 p.fam, .int .u64 p.rd, .string p.addr, .int .i64 (p.len : Nat)] 30) := HP3.out.below HB5.out HP3.out.lt
  have HX5 : Hid (Below w.heap.size w W5) := HB3.out.trans (HB5.out.mono HB3.out.size)
  have HN5 : Hid (NodeAt W5 S b a has v0 l r Sl Sr ql qr) := HN.out.below HX5.out
  have hne5 : w3.heap.size + 1 ≠ w.heap.size := by omega
  have hbu : b ≠ w3.heap.size + 1 := by omega
  clear HP3 HN3 HB3 HB5 p0 p1 p2 p3 k0 k1 k2 k3 k4 k5 k6 k7 z4 z5 z6 z7
  have hU5 := HU5.out.lt
  have hwU : w.heap.size ≤ w3.heap.size + 1 := by omega
  clear hlt3
  generalize w3.heap.size + 1 = U at *
  have j6 : W5.cell? ⟨U, 6, none⟩ = some (.pointer none) := (CellsAt.c HU5.out 6).trans rfl
  have y6 := HU5.out.frozen 6
  refine wp_region_held_drew (S := fun w' => GrownX (fun x => x = U) W5 w') (by kernel_rfl) (GrownX.of_below (below_drewN (Below.refl _ _) 1)) (fun hHeld => ?_)
  refine wpAnyH_take (i := 0) (oi := { dst := some 95, op := Op.move (Operand.tmp 14), type := 68, pos := "trie.go:87", after := #[], guard := none }) (v := ?_) rfl (by kernel_rfl) (by kernel_rfl) (by kernel_rfl) (fun _ _ _ h => h) (Or.inl ⟨by rfl, ?_⟩) hHeld ?_
  rotate_left
  · intro w hSw
    clear hSw
    go_simp
    try with_reducible rfl
  try simp only [Act.put, List.setIfInBounds_toArray, List.set_cons_zero, List.set_cons_succ]
  refine wpAnyH_take (i := 1) (oi := { dst := some 96, op := Op.move (Operand.tmp 0), type := 68, pos := "trie.go:87", after := #[], guard := none }) (v := ?_) rfl (by kernel_rfl) (by kernel_rfl) (by kernel_rfl) (fun _ _ _ h => h) (Or.inl ⟨by rfl, ?_⟩) hHeld ?_
  rotate_left
  · intro w hSw
    clear hSw
    go_simp
    try with_reducible rfl
  try simp only [Act.put, List.setIfInBounds_toArray, List.set_cons_zero, List.set_cons_succ]
  refine wpAnyH_take (i := 2) (oi := { dst := some 97, op := Op.nilCheck (Operand.tmp 96), type := 0, pos := "trie.go:87", after := #[{ on := 1, ground := Ground.data }], guard := none }) (v := ?_) rfl (by kernel_rfl) (by kernel_rfl) (by kernel_rfl) (fun _ _ _ h => h) (Or.inl ⟨by rfl, ?_⟩) hHeld ?_
  rotate_left
  · intro w hSw
    clear hSw
    go_simp
    try with_reducible rfl
  try simp only [Act.put, List.setIfInBounds_toArray, List.set_cons_zero, List.set_cons_succ]
  refine wpAnyH_take (i := 3) (oi := { dst := some 98, op := Op.fieldAddr 76 (Operand.tmp 97) 0, type := 0, pos := "trie.go:87", after := #[{ on := 2, ground := Ground.data }], guard := none }) (v := ?_) rfl (by kernel_rfl) (by kernel_rfl) (by kernel_rfl) (fun _ _ _ h => h) (Or.inl ⟨by rfl, ?_⟩) hHeld ?_
  rotate_left
  · intro w hSw
    clear hSw
    go_simp
    try with_reducible rfl
  try simp only [Act.put, List.setIfInBounds_toArray, List.set_cons_zero, List.set_cons_succ]
  refine wpAnyH_take (i := 4) (oi := { dst := some 99, op := Op.fieldAddr 30 (Operand.tmp 98) 2, type := 0, pos := "trie.go:87", after := #[{ on := 3, ground := Ground.data }], guard := none }) (v := ?_) rfl (by kernel_rfl) (by kernel_rfl) (by kernel_rfl) (fun _ _ _ h => h) (Or.inl ⟨by rfl, ?_⟩) hHeld ?_
  rotate_left
  · intro w hSw
    clear hSw
    go_simp
    try with_reducible rfl
  try simp only [Act.put, List.setIfInBounds_toArray, List.set_cons_zero, List.set_cons_succ]
  refine wpAnyH_take (i := 5) (oi := { dst := some 100, op := Op.load 9 (Operand.tmp 99), type := 9, pos := "trie.go:87", after := #[{ on := 4, ground := Ground.data }], guard := none }) (v := ?_) rfl (by kernel_rfl) (by kernel_rfl) (by kernel_rfl) (fun _ _ _ h => h) (Or.inl ⟨by rfl, ?_⟩) hHeld ?_
  rotate_left
  · intro w hSw
    obtain ⟨k0, k1, k2, k3, _⟩ := CellsAt.c8 (HN5.out.c.grownX hSw hbu)
    go_simp
    try with_reducible rfl
  try simp only [Act.put, List.setIfInBounds_toArray, List.set_cons_zero, List.set_cons_succ]
  refine wpAnyH_take (i := 6) (oi := { dst := some 101, op := Op.move (Operand.tmp 8), type := 3, pos := "trie.go:87", after := #[], guard := none }) (v := ?_) rfl (by kernel_rfl) (by kernel_rfl) (by kernel_rfl) (fun _ _ _ h => h) (Or.inl ⟨by rfl, ?_⟩) hHeld ?_
  rotate_left
  · intro w hSw
    clear hSw
    go_simp
    try with_reducible rfl
  try simp only [Act.put, List.setIfInBounds_toArray, List.set_cons_zero, List.set_cons_succ]
  refine wpAnyH_take (i := 8) (oi := { dst := some 103, op := Op.move (Operand.tmp 0), type := 68, pos := "trie.go:87", after := #[], guard := none }) (v := ?_) rfl (by kernel_rfl) (by kernel_rfl) (by kernel_rfl) (fun _ _ _ h => h) (Or.inl ⟨by rfl, ?_⟩) hHeld ?_
  rotate_left
  · intro w hSw
    clear hSw
    go_simp
    try with_reducible rfl
  try simp only [Act.put, List.setIfInBounds_toArray, List.set_cons_zero, List.set_cons_succ]
  refine wpAnyH_take (i := 9) (oi := { dst := some 104, op := Op.nilCheck (Operand.tmp 95), type := 0, pos := "trie.go:87", after := #[{ on := 0, ground := Ground.data }], guard := none }) (v := ?_) rfl (by kernel_rfl) (by kernel_rfl) (by kernel_rfl) (fun _ _ _ h => h) (Or.inl ⟨by rfl, ?_⟩) hHeld ?_
  rotate_left
  · intro w hSw
    clear hSw
    go_simp
    try with_reducible rfl
  try simp only [Act.put, List.setIfInBounds_toArray, List.set_cons_zero, List.set_cons_succ]
  refine wpAnyH_take (i := 10) (oi := { dst := some 105, op := Op.fieldAddr 76 (Operand.tmp 104) 3, type := 0, pos := "trie.go:87", after := #[{ on := 9, ground := Ground.data }], guard := none }) (v := ?_) rfl (by kernel_rfl) (by kernel_rfl) (by kernel_rfl) (fun _ _ _ h => h) (Or.inl ⟨by rfl, ?_⟩) hHeld ?_
  rotate_left
  · intro w hSw
    clear hSw
    go_simp
    try with_reducible rfl
  try simp only [Act.put, List.setIfInBounds_toArray, List.set_cons_zero, List.set_cons_succ]
  refine wpAnyH_ready (rs := [7]) (by kernel_rfl) (by simp) ?_
  refine AllReadyH.cons (o := { dst := some 102, op := Op.call { callee := Callee.value (Operand.func 44), args := #[Operand.tmp 100, Operand.tmp 101], argTypes := #[9, 3] }, type := 3, pos := "trie.go:87", after := #[{ on := 5, ground := Ground.data }, { on := 6, ground := Ground.data }], guard := none }) rfl (fun K hK => ?_) AllReadyH.nil
  go_simp
  refine (HBT.out _).mono ?_
  rintro e wb ⟨rfl, hwb⟩
  rw [hwb]
  clear hwb
  go_wp2_with fail
  refine hK.out _ _ (hHeld) (fun hHeld => ?_)
  clear hK K
  try simp only [Act.put, List.setIfInBounds_toArray, List.set_cons_zero, List.set_cons_succ]
  refine wpAnyH_take (i := 11) (oi := { dst := some 106, op := Op.indexAddr 74 (Operand.tmp 105) (Operand.tmp 102), type := 0, pos := "trie.go:87", after := #[{ on := 10, ground := Ground.data }, { on := 7, ground := Ground.data }, { on := 0, ground := Ground.phase }, { on := 1, ground := Ground.phase }, { on := 2, ground := Ground.phase }, { on := 3, ground := Ground.phase }, { on := 4, ground := Ground.phase }, { on := 5, ground := Ground.phase }, { on := 6, ground := Ground.phase }, { on := 7, ground := Ground.phase }, { on := 8, ground := Ground.phase }], guard := none }) (v := ?_) rfl (by kernel_rfl) (by kernel_rfl) (by kernel_rfl) (fun _ _ _ h => h) (Or.inl ⟨by rfl, ?_⟩) hHeld ?_
  rotate_left
  · intro w hSw
    clear hSw
    go_simp
    try with_reducible rfl
  try simp only [Act.put, List.setIfInBounds_toArray, List.set_cons_zero, List.set_cons_succ]
  refine wpAnyH_ready (rs := [12]) (by kernel_rfl) (by simp) ?_
  refine AllReadyH.cons (o := { dst := none, op := Op.store 68 (Operand.tmp 106) (Operand.tmp 103), type := 0, pos := "trie.go:87", after := #[{ on := 11, ground := Ground.data }, { on := 8, ground := Ground.data }, { on := 7, ground := Ground.chain }, { on := 0, ground := Ground.phase }, { on := 1, ground := Ground.phase }, { on := 2, ground := Ground.phase }, { on := 3, ground := Ground.phase }, { on := 4, ground := Ground.phase }, { on := 5, ground := Ground.phase }, { on := 6, ground := Ground.phase }, { on := 7, ground := Ground.phase }, { on := 8, ground := Ground.phase }], guard := none }) rfl (fun K hK => ?_) AllReadyH.nil
  go_simp
  skip
  refine hK.out _ _ (hHeld.trans (GrownX.of_row (setCell_row _ _ _ _) rfl)) (fun hHeld => ?_)
  clear hK K
  try simp only [Act.put, List.setIfInBounds_toArray, List.set_cons_zero, List.set_cons_succ]
  refine wpAnyH_done (by kernel_rfl) ?_ _
  have HU6 : Hid (CellsAt (W5.setCell ⟨U, 6, none⟩ (.pointer (some ⟨b, 0, none⟩))).drew U #[.int .i64 p.fam, .int .u64 p.rd, .string (maskB p.addr (K : Nat)), .int .i64 (K : Nat), .bool false, .int .i64 0, .pointer (some ⟨b, 0, none⟩), .pointer none] 76) := ((HU5.out.setc 6 _).cast rfl).drew 1
  have HX6 : Hid (Below w.heap.size w (W5.setCell ⟨U, 6, none⟩ (.pointer (some ⟨b, 0, none⟩))).drew) := below_drewN (Below.setCell HX5.out hwU _) 1
  have HP6 : Hid (CellsAt (W5.setCell ⟨U, 6, none⟩ (.pointer (some ⟨b, 0, none⟩))).drew w.heap.size #[.int .i64 p.fam, .int .u64 p.rd, .string p.addr, .int .i64 (p.len : Nat)] 30) := HP5.out.grownX hHeld (Ne.symm hne5)
  clear hHeld HU5 HX5 HP5 HN5 j6 y6 hU5
  generalize (W5.setCell ⟨U, 6, none⟩ (.pointer (some ⟨b, 0, none⟩))).drew = W6 at *
  obtain ⟨p0, p1, p2, p3, _⟩ := c4_at HP6.out
  have hU6 := HU6.out.lt
  have HLT : Hid (w.heap.size < W6.heap.size) := HP6.out.lt
  have j4 : W6.cell? ⟨U, 4, none⟩ = some (.bool false) := (CellsAt.c HU6.out 4).trans rfl
  have j5 : W6.cell? ⟨U, 5, none⟩ = some (.int .i64 0) := (CellsAt.c HU6.out 5).trans rfl
  have y4 := HU6.out.frozen 4
  have y5 := HU6.out.frozen 5
  go_wp2_with fail
  go_ret2
  exact ⟨_, _, rfl, (SetAt.up HN.out.tree (Below.setCell (Below.setCell HX6.out hwU _) hwU _) hwU).1 (((HU6.out.setc 4 _).setc 5 _).cast rfl)⟩
set_option maxRecDepth 100000 in
set_option maxHeartbeats 4000000 in
theorem set_up1 (p a : Tp) (hp : p.Ok) (ha : a.Ok) (hf : a.fam = p.fam) (v v0 : Int) (has : Bool) (l r : Tt Int) (b : Nat) (S Sl Sr : List Nat) (ql qr : Value) (w : World) (hn : NodeAt w S b a has v0 l r Sl Sr ql qr) (hk : cmN a p ≠ a.len) (hkp : cmN a p = p.len) (hbit : a.bit (cmN a p) = 1) :
    Calls Try.prog 32 #[.pointer (some ⟨b, 0, none⟩), p.v, .int .i64 v] w (SetPost w S (.node (cutT p (cmN a p)) true v .nil (.node a has v0 l r)) true) := by
  have HCM := Lib.hid (fun w => common_any a p ha hp hf w)
  have hpl := hp.le
  have hal := ha.le
  have hps := hp.small
  have has_ := ha.small
  have HN := Lib.hid hn
  have hblt := hn.c.lt
  obtain ⟨c1, c2, _, _⟩ := cmN_spec a p
  have HCUT := Lib.hid (fun w => cut_any p hp (cmN a p) c2 w)
  have hlta : cmN a p < a.len := by omega
  have HBT := Lib.hid (fun w => pbit_any a.addr (cmN a p) w (by omega) (by omega))
  rw [show bitV a.addr (cmN a p) = 1 from hbit] at HBT
  have e1 : (((cmN a p : Nat) : Int) == (a.len : Int)) = false := by rw [beq_eq_false_iff_ne]; omega
  have e3 : (((cmN a p : Nat) : Int) == (p.len : Int)) = true := by rw [beq_iff_eq]; omega
  have HSB := Lib.hid hn.sub
  clear hk hkp hbit
  generalize cmN a p = K at *
  clear hn hp ha hf
  unfold Tp.v at HCM HCUT ⊢
  unfold cutT at HCUT ⊢
  dsimp only at HCUT ⊢
  go_enter Try.func32, Try.ntmps32
  go_wp2_with fail
  obtain ⟨W0, hW0⟩ : ∃ W, W = w.alloc (.cells #[.int .i64 p.fam, .int .u64 p.rd, .string p.addr, .int .i64 (p.len : Nat)] 30) := ⟨_, rfl⟩
  have HP0 : Hid (CellsAt W0 w.heap.size #[.int .i64 p.fam, .int .u64 p.rd, .string p.addr, .int .i64 (p.len : Nat)] 30) := by rw [hW0]; exact CellsAt.new _ _ _
  have HB0 : Hid (Below w.heap.size w W0) := by
    rw [hW0]
    show Below _ _ _
    exact (Below.refl _ _).alloc (Nat.le_refl _) _
  rw [← hW0]
  clear hW0
  have HN0 : Hid (NodeAt W0 S b a has v0 l r Sl Sr ql qr) := HN.out.below HB0.out
  refine wp_region_held_drew (S := fun w' => Below W0.heap.size W0 w') (by kernel_rfl) (below_drewN (Below.refl _ _) 1) (fun hHeld => ?_)
  refine wpAnyH_take (i := 0) (oi := { dst := some 21, op := Op.move (Operand.tmp 0), type := 68, pos := "trie.go:73", after := #[], guard := none }) (v := ?_) rfl (by kernel_rfl) (by kernel_rfl) (by kernel_rfl) (fun _ _ _ h => h) (Or.inl ⟨by rfl, ?_⟩) hHeld ?_
  rotate_left
  · intro w hSw
    clear hSw
    go_simp
    try with_reducible rfl
  try simp only [Act.put, List.setIfInBounds_toArray, List.set_cons_zero, List.set_cons_succ]
  refine wpAnyH_take (i := 1) (oi := { dst := some 22, op := Op.nilCheck (Operand.tmp 21), type := 0, pos := "trie.go:73", after := #[{ on := 0, ground := Ground.data }], guard := none }) (v := ?_) rfl (by kernel_rfl) (by kernel_rfl) (by kernel_rfl) (fun _ _ _ h => h) (Or.inl ⟨by rfl, ?_⟩) hHeld ?_
  rotate_left
  · intro w hSw
    clear hSw
    go_simp
    try with_reducible rfl
  try simp only [Act.put, List.setIfInBounds_toArray, List.set_cons_zero, List.set_cons_succ]
  refine wpAnyH_take (i := 2) (oi := { dst := some 23, op := Op.fieldAddr 76 (Operand.tmp 22) 0, type := 0, pos := "trie.go:73", after := #[{ on := 1, ground := Ground.data }], guard := none }) (v := ?_) rfl (by kernel_rfl) (by kernel_rfl) (by kernel_rfl) (fun _ _ _ h => h) (Or.inl ⟨by rfl, ?_⟩) hHeld ?_
  rotate_left
  · intro w hSw
    clear hSw
    go_simp
    try with_reducible rfl
  try simp only [Act.put, List.setIfInBounds_toArray, List.set_cons_zero, List.set_cons_succ]
  refine wpAnyH_take (i := 3) (oi := { dst := some 24, op := Op.load 30 (Operand.tmp 23), type := 30, pos := "trie.go:73", after := #[{ on := 2, ground := Ground.data }], guard := none }) (v := ?_) rfl (by kernel_rfl) (by kernel_rfl) (by kernel_rfl) (fun _ _ _ h => h) (Or.inl ⟨by rfl, ?_⟩) hHeld ?_
  rotate_left
  · intro w hSw
    obtain ⟨k0, k1, k2, k3, _⟩ := (HN0.out.below hSw).k
    obtain ⟨p0, p1, p2, p3, _⟩ := c4_at (HP0.out.below hSw HP0.out.lt)
    go_simp
    try with_reducible rfl
  try simp only [Act.put, List.setIfInBounds_toArray, List.set_cons_zero, List.set_cons_succ]
  refine wpAnyH_take (i := 4) (oi := { dst := some 25, op := Op.load 30 (Operand.tmp 4), type := 30, pos := "trie.go:73", after := #[], guard := none }) (v := ?_) rfl (by kernel_rfl) (by kernel_rfl) (by kernel_rfl) (fun _ _ _ h => h) (Or.inl ⟨by rfl, ?_⟩) hHeld ?_
  rotate_left
  · intro w hSw
    obtain ⟨k0, k1, k2, k3, _⟩ := (HN0.out.below hSw).k
    obtain ⟨p0, p1, p2, p3, _⟩ := c4_at (HP0.out.below hSw HP0.out.lt)
    go_simp
    try with_reducible rfl
  try simp only [Act.put, List.setIfInBounds_toArray, List.set_cons_zero, List.set_cons_succ]
  refine wpAnyH_ready (rs := [5]) (by kernel_rfl) (by simp) ?_
  refine AllReadyH.cons (o := { dst := some 26, op := Op.call { callee := Callee.value (Operand.func 43), args := #[Operand.tmp 24, Operand.tmp 25], argTypes := #[30, 30] }, type := 3, pos := "trie.go:73", after := #[{ on := 3, ground := Ground.data }, { on := 4, ground := Ground.data }], guard := none }) rfl (fun K hK => ?_) AllReadyH.nil
  go_simp
  refine (HCM.out _).mono ?_
  rintro e w9 ⟨rfl, hb9⟩
  go_wp2_with fail
  refine hK.out _ _ (hHeld.trans (hb9.mono hHeld.size)) (fun hHeld => ?_)
  clear hK K
  try simp only [Act.put, List.setIfInBounds_toArray, List.set_cons_zero, List.set_cons_succ]
  refine wpAnyH_take (i := 6) (oi := { dst := some 8, op := Op.assign (Operand.tmp 26), type := 3, pos := "trie.go:73", after := #[{ on := 5, ground := Ground.data }, { on := 5, ground := Ground.chain }, { on := 0, ground := Ground.phase }, { on := 1, ground := Ground.phase }, { on := 2, ground := Ground.phase }, { on := 3, ground := Ground.phase }, { on := 4, ground := Ground.phase }, { on := 5, ground := Ground.phase }], guard := none }) (v := ?_) rfl (by kernel_rfl) (by kernel_rfl) (by kernel_rfl) (fun _ _ _ h => h) (Or.inl ⟨by rfl, ?_⟩) hHeld ?_
  rotate_left
  · intro w hSw
    clear hSw
    go_simp
    try with_reducible rfl
  try simp only [Act.put, List.setIfInBounds_toArray, List.set_cons_zero, List.set_cons_succ]
  refine wpAnyH_done (by kernel_rfl) ?_ _
  have HB1 : Hid (Below w.heap.size w w9) := HB0.out.trans (hHeld.mono HB0.out.size)
  have HN1 : Hid (NodeAt w9 S b a has v0 l r Sl Sr ql qr) := HN.out.below HB1.out
  have HP1 : Hid (CellsAt w9 w.heap.size #[.int .i64 p.fam, .int .u64 p.rd, .string p.addr, .int .i64 (p.len : Nat)] 30) := HP0.out.below hHeld HP0.out.lt
  clear hHeld HN0 HP0 HB0 hb9
  obtain ⟨k0, k1, k2, k3, k4, k5, k6, k7, z4, z5, z6, z7⟩ := HN1.out.k
  obtain ⟨p0, p1, p2, p3, _⟩ := c4_at HP1.out
  go_wp2_with fail
  refine (HCUT.out _).mono ?_
  rintro e w3 ⟨rfl, hb3⟩
  have HB3 : Hid (Below w.heap.size w w3) := HB1.out.trans (hb3.mono HB1.out.size)
  have HN3 : Hid (NodeAt w3 S b a has v0 l r Sl Sr ql qr) := HN.out.below HB3.out
  have HP3 : Hid (CellsAt w3 w.heap.size #[.int .i64 p.fam, .int .u64 p.rd, .string p.addr, .int .i64 (p.len : Nat)] 30) := HP1.out.below hb3 HP1.out.lt
  have hlt3 : w.heap.size < w3.heap.size := HP3.out.lt
  clear hb3 HN1 HP1 HB1 k0 k1 k2 k3 k4 k5 k6 k7 z4 z5 z6 z7 p0 p1 p2 p3
  obtain ⟨k0, k1, k2, k3, k4, k5, k6, k7, z4, z5, z6, z7⟩ := HN3.out.k
  obtain ⟨p0, p1, p2, p3, _⟩ := c4_at HP3.out
  go_wp2_with fail
  refine wp_name fun W5 hW5 => ?_
  have HU5 : Hid (CellsAt W5 (w3.heap.size + 1) #[.int .i64 p.fam, .int .u64 p.rd, .string (maskB p.addr (K : Nat)), .int .i64 (K : Nat), .bool false, .int .i64 0, .pointer none, .pointer none] 76) := by
    rw [hW5]
    exact CellsAt.new' _ _ (by simp) _ _
  have HB5 : Hid (Below w3.heap.size w3 W5) := by
    rw [hW5]
    clear hW5 HU5 HP3 HN3 HB3 p0 p1 p2 p3 k0 k1 k2 k3 k4 k5 k6 k7 z4 z5 z6 z7
    show Below _ _ _
    repeat' (first | with_reducible exact Below.refl _ _ | with_reducible refine Below.setCell ?_ (by simp) _ | with_reducible refine Below.alloc ?_ (by simp <;> omega) _)
  clear hW5
  have HP5 : Hid (CellsAt W5 w.heap.size #[.int .i64 p.fam, .int .u64 p.rd, .string p.addr, .int .i64 (p.len : Nat)] 30) := HP3.out.below HB5.out HP3.out.lt
  have HX5 : Hid (Below w.heap.size w W5) := HB3.out.trans (HB5.out.mono HB3.out.size)
  have HN5 : Hid (NodeAt W5 S b a has v0 l r Sl Sr ql qr) := HN.out.below HX5.out
  have hne5 : w3.heap.size + 1 ≠ w.heap.size := by omega
  have hbu : b ≠ w3.heap.size + 1 := by omega
  clear HP3 HN3 HB3 HB5 p0 p1 p2 p3 k0 k1 k2 k3 k4 k5 k6 k7 z4 z5 z6 z7
  have hU5 := HU5.out.lt
  have hwU : w.heap.size ≤ w3.heap.size + 1 := by omega
  clear hlt3
  generalize w3.heap.size + 1 = U at *
  have j7 : W5.cell? ⟨U, 7, none⟩ = some (.pointer none) := (CellsAt.c HU5.out 7).trans rfl
  have y7 := HU5.out.frozen 7
  refine wp_region_held_drew (S := fun w' => GrownX (fun x => x = U) W5 w') (by kernel_rfl) (GrownX.of_below (below_drewN (Below.refl _ _) 1)) (fun hHeld => ?_)
  refine wpAnyH_take (i := 0) (oi := { dst := some 95, op := Op.move (Operand.tmp 14), type := 68, pos := "trie.go:87", after := #[], guard := none }) (v := ?_) rfl (by kernel_rfl) (by kernel_rfl) (by kernel_rfl) (fun _ _ _ h => h) (Or.inl ⟨by rfl, ?_⟩) hHeld ?_
  rotate_left
  · intro w hSw
    clear hSw
    go_simp
    try with_reducible rfl
  try simp only [Act.put, List.setIfInBounds_toArray, List.set_cons_zero, List.set_cons_succ]
  refine wpAnyH_take (i := 1) (oi := { dst := some 96, op := Op.move (Operand.tmp 0), type := 68, pos := "trie.go:87", after := #[], guard := none }) (v := ?_) rfl (by kernel_rfl) (by kernel_rfl) (by kernel_rfl) (fun _ _ _ h => h) (Or.inl ⟨by rfl, ?_⟩) hHeld ?_
  rotate_left
  · intro w hSw
    clear hSw
    go_simp
    try with_reducible rfl
  try simp only [Act.put, List.setIfInBounds_toArray, List.set_cons_zero, List.set_cons_succ]
  refine wpAnyH_take (i := 2) (oi := { dst := some 97, op := Op.nilCheck (Operand.tmp 96), type := 0, pos := "trie.go:87", after := #[{ on := 1, ground := Ground.data }], guard := none }) (v := ?_) rfl (by kernel_rfl) (by kernel_rfl) (by kernel_rfl) (fun _ _ _ h => h) (Or.inl ⟨by rfl, ?_⟩) hHeld ?_
  rotate_left
  · intro w hSw
    clear hSw
    go_simp
    try with_reducible rfl
  try simp only [Act.put, List.setIfInBounds_toArray, List.set_cons_zero, List.set_cons_succ]
  refine wpAnyH_take (i := 3) (oi := { dst := some 98, op := Op.fieldAddr 76 (Operand.tmp 97) 0, type := 0, pos := "trie.go:87", after := #[{ on := 2, ground := Ground.data }], guard := none }) (v := ?_) rfl (by kernel_rfl) (by kernel_rfl) (by kernel_rfl) (fun _ _ _ h => h) (Or.inl ⟨by rfl, ?_⟩) hHeld ?_
  rotate_left
  · intro w hSw
    clear hSw
    go_simp
    try with_reducible rfl
  try simp only [Act.put, List.setIfInBounds_toArray, List.set_cons_zero, List.set_cons_succ]
  refine wpAnyH_take (i := 4) (oi := { dst := some 99, op := Op.fieldAddr 30 (Operand.tmp 98) 2, type := 0, pos := "trie.go:87", after := #[{ on := 3, ground := Ground.data }], guard := none }) (v := ?_) rfl (by kernel_rfl) (by kernel_rfl) (by kernel_rfl) (fun _ _ _ h => h) (Or.inl ⟨by rfl, ?_⟩) hHeld ?_
  rotate_left
  · intro w hSw
    clear hSw
    go_simp
    try with_reducible rfl
  try simp only [Act.put, List.setIfInBounds_toArray, List.set_cons_zero, List.set_cons_succ]
  refine wpAnyH_take (i := 5) (oi := { dst := some 100, op := Op.load 9 (Operand.tmp 99), type := 9, pos := "trie.go:87", after := #[{ on := 4, ground := Ground.data }], guard := none }) (v := ?_) rfl (by kernel_rfl) (by kernel_rfl) (by kernel_rfl) (fun _ _ _ h => h) (Or.inl ⟨by rfl, ?_⟩) hHeld ?_
  rotate_left
  · intro w hSw
    obtain ⟨k0, k1, k2, k3, _⟩ := CellsAt.c8 (HN5.out.c.grownX hSw hbu)
    go_simp
    try with_reducible rfl
  try simp only [Act.put, List.setIfInBounds_toArray, List.set_cons_zero, List.set_cons_succ]
  refine wpAnyH_take (i := 6) (oi := { dst := some 101, op := Op.move (Operand.tmp 8), type := 3, pos := "trie.go:87", after := #[], guard := none }) (v := ?_) rfl (by kernel_rfl) (by kernel_rfl) (by kernel_rfl) (fun _ _ _ h => h) (Or.inl ⟨by rfl, ?_⟩) hHeld ?_
  rotate_left
  · intro w hSw
    clear hSw
    go_simp
    try with_reducible rfl
  try simp only [Act.put, List.setIfInBounds_toArray, List.set_cons_zero, List.set_cons_succ]
  refine wpAnyH_take (i := 8) (oi := { dst := some 103, op := Op.move (Operand.tmp 0), type := 68, pos := "trie.go:87", after := #[], guard := none }) (v := ?_) rfl (by kernel_rfl) (by kernel_rfl) (by kernel_rfl) (fun _ _ _ h => h) (Or.inl ⟨by rfl, ?_⟩) hHeld ?_
  rotate_left
  · intro w hSw
    clear hSw
    go_simp
    try with_reducible rfl
  try simp only [Act.put, List.setIfInBounds_toArray, List.set_cons_zero, List.set_cons_succ]
  refine wpAnyH_take (i := 9) (oi := { dst := some 104, op := Op.nilCheck (Operand.tmp 95), type := 0, pos := "trie.go:87", after := #[{ on := 0, ground := Ground.data }], guard := none }) (v := ?_) rfl (by kernel_rfl) (by kernel_rfl) (by kernel_rfl) (fun _ _ _ h => h) (Or.inl ⟨by rfl, ?_⟩) hHeld ?_
  rotate_left
  · intro w hSw
    clear hSw
    go_simp
    try with_reducible rfl
  try simp only [Act.put, List.setIfInBounds_toArray, List.set_cons_zero, List.set_cons_succ]
  refine wpAnyH_take (i := 10) (oi := { dst := some 105, op := Op.fieldAddr 76 (Operand.tmp 104) 3, type := 0, pos := "trie.go:87", after := #[{ on := 9, ground := Ground.data }], guard := none }) (v := ?_) rfl (by kernel_rfl) (by kernel_rfl) (by kernel_rfl) (fun _ _ _ h => h) (Or.inl ⟨by rfl, ?_⟩) hHeld ?_
  rotate_left
  · intro w hSw
    clear hSw
    go_simp
    try with_reducible rfl
  try simp only [Act.put, List.setIfInBounds_toArray, List.set_cons_zero, List.set_cons_succ]
  refine wpAnyH_ready (rs := [7]) (by kernel_rfl) (by simp) ?_
  refine AllReadyH.cons (o := { dst := some 102, op := Op.call { callee := Callee.value (Operand.func 44), args := #[Operand.tmp 100, Operand.tmp 101], argTypes := #[9, 3] }, type := 3, pos := "trie.go:87", after := #[{ on := 5, ground := Ground.data }, { on := 6, ground := Ground.data }], guard := none }) rfl (fun K hK => ?_) AllReadyH.nil
  go_simp
  refine (HBT.out _).mono ?_
  rintro e wb ⟨rfl, hwb⟩
  rw [hwb]
  clear hwb
  go_wp2_with fail
  refine hK.out _ _ (hHeld) (fun hHeld => ?_)
  clear hK K
  try simp only [Act.put, List.setIfInBounds_toArray, List.set_cons_zero, List.set_cons_succ]
  refine wpAnyH_take (i := 11) (oi := { dst := some 106, op := Op.indexAddr 74 (Operand.tmp 105) (Operand.tmp 102), type := 0, pos := "trie.go:87", after := #[{ on := 10, ground := Ground.data }, { on := 7, ground := Ground.data }, { on := 0, ground := Ground.phase }, { on := 1, ground := Ground.phase }, { on := 2, ground := Ground.phase }, { on := 3, ground := Ground.phase }, { on := 4, ground := Ground.phase }, { on := 5, ground := Ground.phase }, { on := 6, ground := Ground.phase }, { on := 7, ground := Ground.phase }, { on := 8, ground := Ground.phase }], guard := none }) (v := ?_) rfl (by kernel_rfl) (by kernel_rfl) (by kernel_rfl) (fun _ _ _ h => h) (Or.inl ⟨by rfl, ?_⟩) hHeld ?_
  rotate_left
  · intro w hSw
    clear hSw
    go_simp
    try with_reducible rfl
  try simp only [Act.put, List.setIfInBounds_toArray, List.set_cons_zero, List.set_cons_succ]
  refine wpAnyH_ready (rs := [12]) (by kernel_rfl) (by simp) ?_
  refine AllReadyH.cons (o := { dst := none, op := Op.store 68 (Operand.tmp 106) (Operand.tmp 103), type := 0, pos := "trie.go:87", after := #[{ on := 11, ground := Ground.data }, { on := 8, ground := Ground.data }, { on := 7, ground := Ground.chain }, { on := 0, ground := Ground.phase }, { on := 1, ground := Ground.phase }, { on := 2, ground := Ground.phase }, { on := 3, ground := Ground.phase }, { on := 4, ground := Ground.phase }, { on := 5, ground := Ground.phase }, { on := 6, ground := Ground.phase }, { on := 7, ground := Ground.phase }, { on := 8, ground := Ground.phase }], guard := none }) rfl (fun K hK => ?_) AllReadyH.nil
  go_simp
  skip
  refine hK.out _ _ (hHeld.trans (GrownX.of_row (setCell_row _ _ _ _) rfl)) (fun hHeld => ?_)
  clear hK K
  try simp only [Act.put, List.setIfInBounds_toArray, List.set_cons_zero, List.set_cons_succ]
  refine wpAnyH_done (by kernel_rfl) ?_ _
  have HU6 : Hid (CellsAt (W5.setCell ⟨U, 7, none⟩ (.pointer (some ⟨b, 0, none⟩))).drew U #[.int .i64 p.fam, .int .u64 p.rd, .string (maskB p.addr (K : Nat)), .int .i64 (K : Nat), .bool false, .int .i64 0, .pointer none, .pointer (some ⟨b, 0, none⟩)] 76) := ((HU5.out.setc 7 _).cast rfl).drew 1
  have HX6 : Hid (Below w.heap.size w (W5.setCell ⟨U, 7, none⟩ (.pointer (some ⟨b, 0, none⟩))).drew) := below_drewN (Below.setCell HX5.out hwU _) 1
  have HP6 : Hid (CellsAt (W5.setCell ⟨U, 7, none⟩ (.pointer (some ⟨b, 0, none⟩))).drew w.heap.size #[.int .i64 p.fam, .int .u64 p.rd, .string p.addr, .int .i64 (p.len : Nat)] 30) := HP5.out.grownX hHeld (Ne.symm hne5)
  clear hHeld HU5 HX5 HP5 HN5 j7 y7 hU5
  generalize (W5.setCell ⟨U, 7, none⟩ (.pointer (some ⟨b, 0, none⟩))).drew = W6 at *
  obtain ⟨p0, p1, p2, p3, _⟩ := c4_at HP6.out
  have hU6 := HU6.out.lt
  have HLT : Hid (w.heap.size < W6.heap.size) := HP6.out.lt
  have j4 : W6.cell? ⟨U, 4, none⟩ = some (.bool false) := (CellsAt.c HU6.out 4).trans rfl
  have j5 : W6.cell? ⟨U, 5, none⟩ = some (.int .i64 0) := (CellsAt.c HU6.out 5).trans rfl
  have y4 := HU6.out.frozen 4
  have y5 := HU6.out.frozen 5
  go_wp2_with fail
  go_ret2
  exact ⟨_, _, rfl, (SetAt.up HN.out.tree (Below.setCell (Below.setCell HX6.out hwU _) hwU _) hwU).2 (((HU6.out.setc 4 _).setc 5 _).cast rfl)⟩
set_option maxRecDepth 100000 in
set_option maxHeartbeats 4000000 in
theorem set_fork0 (p a : Tp) (hp : p.Ok) (ha : a.Ok) (hf : a.fam = p.fam) (v v0 : Int) (has : Bool) (l r : Tt Int) (b : Nat) (S Sl Sr : List Nat) (ql qr : Value) (w : World) (hn : NodeAt w S b a has v0 l r Sl Sr ql qr) (hk : cmN a p ≠ a.len) (hkp : cmN a p ≠ p.len) (hbit : a.bit (cmN a p) = 0) (hbp : p.bit (cmN a p) = 1) :
    Calls Try.prog 32 #[.pointer (some ⟨b, 0, none⟩), p.v, .int .i64 v] w (SetPost w S (.node (cutT p (cmN a p)) false 0 (.node a has v0 l r) (.node p true v .nil .nil)) true) := by
  have HCM := Lib.hid (fun w => common_any a p ha hp hf w)
  have hpl := hp.le
  have hal := ha.le
  have hps := hp.small
  have has_ := ha.small
  have HN := Lib.hid hn
  have hblt := hn.c.lt
  obtain ⟨c1, c2, _, _⟩ := cmN_spec a p
  have HCUT := Lib.hid (fun w => cut_any p hp (cmN a p) c2 w)
  have hlta : cmN a p < a.len := by omega
  have HBT := Lib.hid (fun w => pbit_any a.addr (cmN a p) w (by omega) (by omega))
  rw [show bitV a.addr (cmN a p) = 0 from hbit] at HBT
  have hltp : cmN a p < p.len := by omega
  have HBP := Lib.hid (fun w => pbit_any p.addr (cmN a p) w (by omega) (by omega))
  rw [show bitV p.addr (cmN a p) = 1 from hbp] at HBP
  have e1 : (((cmN a p : Nat) : Int) == (a.len : Int)) = false := by rw [beq_eq_false_iff_ne]; omega
  have e3 : (((cmN a p : Nat) : Int) == (p.len : Int)) = false := by rw [beq_eq_false_iff_ne]; omega
  have HSB := Lib.hid hn.sub
  clear hk hkp hbit hbp
  generalize cmN a p = K at *
  clear hn hp ha hf
  unfold Tp.v at HCM HCUT ⊢
  unfold cutT at HCUT ⊢
  dsimp only at HCUT ⊢
  go_enter Try.func32, Try.ntmps32
  go_wp2_with fail
  obtain ⟨W0, hW0⟩ : ∃ W, W = w.alloc (.cells #[.int .i64 p.fam, .int .u64 p.rd, .string p.addr, .int .i64 (p.len : Nat)] 30) := ⟨_, rfl⟩
  have HP0 : Hid (CellsAt W0 w.heap.size #[.int .i64 p.fam, .int .u64 p.rd, .string p.addr, .int .i64 (p.len : Nat)] 30) := by rw [hW0]; exact CellsAt.new _ _ _
  have HB0 : Hid (Below w.heap.size w W0) := by
    rw [hW0]
    show Below _ _ _
    exact (Below.refl _ _).alloc (Nat.le_refl _) _
  rw [← hW0]
  clear hW0
  have HN0 : Hid (NodeAt W0 S b a has v0 l r Sl Sr ql qr) := HN.out.below HB0.out
  refine wp_region_held_drew (S := fun w' => Below W0.heap.size W0 w') (by kernel_rfl) (below_drewN (Below.refl _ _) 1) (fun hHeld => ?_)
  refine wpAnyH_take (i := 0) (oi := { dst := some 21, op := Op.move (Operand.tmp 0), type := 68, pos := "trie.go:73", after := #[], guard := none }) (v := ?_) rfl (by kernel_rfl) (by kernel_rfl) (by kernel_rfl) (fun _ _ _ h => h) (Or.inl ⟨by rfl, ?_⟩) hHeld ?_
  rotate_left
  · intro w hSw
    clear hSw
    go_simp
    try with_reducible rfl
  try simp only [Act.put, List.setIfInBounds_toArray, List.set_cons_zero, List.set_cons_succ]
  refine wpAnyH_take (i := 1) (oi := { dst := some 22, op := Op.nilCheck (Operand.tmp 21), type := 0, pos := "trie.go:73", after := #[{ on := 0, ground := Ground.data }], guard := none }) (v := ?_) rfl (by kernel_rfl) (by kernel_rfl) (by kernel_rfl) (fun _ _ _ h => h) (Or.inl ⟨by rfl, ?_⟩) hHeld ?_
  rotate_left
  · intro w hSw
    clear hSw
    go_simp
    try with_reducible rfl
  try simp only [Act.put, List.setIfInBounds_toArray, List.set_cons_zero, List.set_cons_succ]
  refine wpAnyH_take (i := 2) (oi := { dst := some 23, op := Op.fieldAddr 76 (Operand.tmp 22) 0, type := 0, pos := "trie.go:73", after := #[{ on := 1, ground := Ground.data }], guard := none }) (v := ?_) rfl (by kernel_rfl) (by kernel_rfl) (by kernel_rfl) (fun _ _ _ h => h) (Or.inl ⟨by rfl, ?_⟩) hHeld ?_
  rotate_left
  · intro w hSw
    clear hSw
    go_simp
    try with_reducible rfl
  try simp only [Act.put, List.setIfInBounds_toArray, List.set_cons_zero, List.set_cons_succ]
  refine wpAnyH_take (i := 3) (oi := { dst := some 24, op := Op.load 30 (Operand.tmp 23), type := 30, pos := "trie.go:73", after := #[{ on := 2, ground := Ground.data }], guard := none }) (v := ?_) rfl (by kernel_rfl) (by kernel_rfl) (by kernel_rfl) (fun _ _ _ h => h) (Or.inl ⟨by rfl, ?_⟩) hHeld ?_
  rotate_left
  · intro w hSw
    obtain ⟨k0, k1, k2, k3, _⟩ := (HN0.out.below hSw).k
    obtain ⟨p0, p1, p2, p3, _⟩ := c4_at (HP0.out.below hSw HP0.out.lt)
    go_simp
    try with_reducible rfl
  try simp only [Act.put, List.setIfInBounds_toArray, List.set_cons_zero, List.set_cons_succ]
  refine wpAnyH_take (i := 4) (oi := { dst := some 25, op := Op.load 30 (Operand.tmp 4), type := 30, pos := "trie.go:73", after := #[], guard := none }) (v := ?_) rfl (by kernel_rfl) (by kernel_rfl) (by kernel_rfl) (fun _ _ _ h => h) (Or.inl ⟨by rfl, ?_⟩) hHeld ?_
  rotate_left
  · intro w hSw
    obtain ⟨k0, k1, k2, k3, _⟩ := (HN0.out.below hSw).k
    obtain ⟨p0, p1, p2, p3, _⟩ := c4_at (HP0.out.below hSw HP0.out.lt)
    go_simp
    try with_reducible rfl
  try simp only [Act.put, List.setIfInBounds_toArray, List.set_cons_zero, List.set_cons_succ]
  refine wpAnyH_ready (rs := [5]) (by kernel_rfl) (by simp) ?_
  refine AllReadyH.cons (o := { dst := some 26, op := Op.call { callee := Callee.value (Operand.func 43), args := #[Operand.tmp 24, Operand.tmp 25], argTypes := #[30, 30] }, type := 3, pos := "trie.go:73", after := #[{ on := 3, ground := Ground.data }, { on := 4, ground := Ground.data }], guard := none }) rfl (fun K hK => ?_) AllReadyH.nil
  go_simp
  refine (HCM.out _).mono ?_
  rintro e w9 ⟨rfl, hb9⟩
  go_wp2_with fail
  refine hK.out _ _ (hHeld.trans (hb9.mono hHeld.size)) (fun hHeld => ?_)
  clear hK K
  try simp only [Act.put, List.setIfInBounds_toArray, List.set_cons_zero, List.set_cons_succ]
  refine wpAnyH_take (i := 6) (oi := { dst := some 8, op := Op.assign (Operand.tmp 26), type := 3, pos := "trie.go:73", after := #[{ on := 5, ground := Ground.data }, { on := 5, ground := Ground.chain }, { on := 0, ground := Ground.phase }, { on := 1, ground := Ground.phase }, { on := 2, ground := Ground.phase }, { on := 3, ground := Ground.phase }, { on := 4, ground := Ground.phase }, { on := 5, ground := Ground.phase }], guard := none }) (v := ?_) rfl (by kernel_rfl) (by kernel_rfl) (by kernel_rfl) (fun _ _ _ h => h) (Or.inl ⟨by rfl, ?_⟩) hHeld ?_
  rotate_left
  · intro w hSw
    clear hSw
    go_simp
    try with_reducible rfl
  try simp only [Act.put, List.setIfInBounds_toArray, List.set_cons_zero, List.set_cons_succ]
  refine wpAnyH_done (by kernel_rfl) ?_ _
  have HB1 : Hid (Below w.heap.size w w9) := HB0.out.trans (hHeld.mono HB0.out.size)
  have HN1 : Hid (NodeAt w9 S b a has v0 l r Sl Sr ql qr) := HN.out.below HB1.out
  have HP1 : Hid (CellsAt w9 w.heap.size #[.int .i64 p.fam, .int .u64 p.rd, .string p.addr, .int .i64 (p.len : Nat)] 30) := HP0.out.below hHeld HP0.out.lt
  clear hHeld HN0 HP0 HB0 hb9
  obtain ⟨k0, k1, k2, k3, k4, k5, k6, k7, z4, z5, z6, z7⟩ := HN1.out.k
  obtain ⟨p0, p1, p2, p3, _⟩ := c4_at HP1.out
  go_wp2_with fail
  refine (HCUT.out _).mono ?_
  rintro e w3 ⟨rfl, hb3⟩
  have HB3 : Hid (Below w.heap.size w w3) := HB1.out.trans (hb3.mono HB1.out.size)
  have HN3 : Hid (NodeAt w3 S b a has v0 l r Sl Sr ql qr) := HN.out.below HB3.out
  have HP3 : Hid (CellsAt w3 w.heap.size #[.int .i64 p.fam, .int .u64 p.rd, .string p.addr, .int .i64 (p.len : Nat)] 30) := HP1.out.below hb3 HP1.out.lt
  have hlt3 : w.heap.size < w3.heap.size := HP3.out.lt
  clear hb3 HN1 HP1 HB1 k0 k1 k2 k3 k4 k5 k6 k7 z4 z5 z6 z7 p0 p1 p2 p3
  obtain ⟨k0, k1, k2, k3, k4, k5, k6, k7, z4, z5, z6, z7⟩ := HN3.out.k
  obtain ⟨p0, p1, p2, p3, _⟩ := c4_at HP3.out
  go_wp2_with fail
  refine wp_name fun W5 hW5 => ?_
  have HU5 : Hid (CellsAt W5 (w3.heap.size + 1) #[.int .i64 p.fam, .int .u64 p.rd, .string (maskB p.addr (K : Nat)), .int .i64 (K : Nat), .bool false, .int .i64 0, .pointer none, .pointer none] 76) := by
    rw [hW5]
    exact CellsAt.new' _ _ (by simp) _ _
  have HB5 : Hid (Below w3.heap.size w3 W5) := by
    rw [hW5]
    clear hW5 HU5 HP3 HN3 HB3 p0 p1 p2 p3 k0 k1 k2 k3 k4 k5 k6 k7 z4 z5 z6 z7
    show Below _ _ _
    repeat' (first | with_reducible exact Below.refl _ _ | with_reducible refine Below.setCell ?_ (by simp) _ | with_reducible refine Below.alloc ?_ (by simp <;> omega) _)
  clear hW5
  have HP5 : Hid (CellsAt W5 w.heap.size #[.int .i64 p.fam, .int .u64 p.rd, .string p.addr, .int .i64 (p.len : Nat)] 30) := HP3.out.below HB5.out HP3.out.lt
  have HX5 : Hid (Below w.heap.size w W5) := HB3.out.trans (HB5.out.mono HB3.out.size)
  have HN5 : Hid (NodeAt W5 S b a has v0 l r Sl Sr ql qr) := HN.out.below HX5.out
  have hne5 : w3.heap.size + 1 ≠ w.heap.size := by omega
  have hbu : b ≠ w3.heap.size + 1 := by omega
  clear HP3 HN3 HB3 HB5 p0 p1 p2 p3 k0 k1 k2 k3 k4 k5 k6 k7 z4 z5 z6 z7
  have hU5 := HU5.out.lt
  have hwU : w.heap.size ≤ w3.heap.size + 1 := by omega
  clear hlt3
  generalize w3.heap.size + 1 = U at *
  have j6 : W5.cell? ⟨U, 6, none⟩ = some (.pointer none) := (CellsAt.c HU5.out 6).trans rfl
  have y6 := HU5.out.frozen 6
  refine wp_region_held_drew (S := fun w' => GrownX (fun x => x = U) W5 w') (by kernel_rfl) (GrownX.of_below (below_drewN (Below.refl _ _) 1)) (fun hHeld => ?_)
  refine wpAnyH_take (i := 0) (oi := { dst := some 95, op := Op.move (Operand.tmp 14), type := 68, pos := "trie.go:87", after := #[], guard := none }) (v := ?_) rfl (by kernel_rfl) (by kernel_rfl) (by kernel_rfl) (fun _ _ _ h => h) (Or.inl ⟨by rfl, ?_⟩) hHeld ?_
  rotate_left
  · intro w hSw
    clear hSw
    go_simp
    try with_reducible rfl
  try simp only [Act.put, List.setIfInBounds_toArray, List.set_cons_zero, List.set_cons_succ]
  refine wpAnyH_take (i := 1) (oi := { dst := some 96, op := Op.move (Operand.tmp 0), type := 68, pos := "trie.go:87", after := #[], guard := none }) (v := ?_) rfl (by kernel_rfl) (by kernel_rfl) (by kernel_rfl) (fun _ _ _ h => h) (Or.inl ⟨by rfl, ?_⟩) hHeld ?_
  rotate_left
  · intro w hSw
    clear hSw
    go_simp
    try with_reducible rfl
  try simp only [Act.put, List.setIfInBounds_toArray, List.set_cons_zero, List.set_cons_succ]
  refine wpAnyH_take (i := 2) (oi := { dst := some 97, op := Op.nilCheck (Operand.tmp 96), type := 0, pos := "trie.go:87", after := #[{ on := 1, ground := Ground.data }], guard := none }) (v := ?_) rfl (by kernel_rfl) (by kernel_rfl) (by kernel_rfl) (fun _ _ _ h => h) (Or.inl ⟨by rfl, ?_⟩) hHeld ?_
  rotate_left
  · intro w hSw
    clear hSw
    go_simp
    try with_reducible rfl
  try simp only [Act.put, List.setIfInBounds_toArray, List.set_cons_zero, List.set_cons_succ]
  refine wpAnyH_take (i := 3) (oi := { dst := some 98, op := Op.fieldAddr 76 (Operand.tmp 97) 0, type := 0, pos := "trie.go:87", after := #[{ on := 2, ground := Ground.data }], guard := none }) (v := ?_) rfl (by kernel_rfl) (by kernel_rfl) (by kernel_rfl) (fun _ _ _ h => h) (Or.inl ⟨by rfl, ?_⟩) hHeld ?_
  rotate_left
  · intro w hSw
    clear hSw
    go_simp
    try with_reducible rfl
  try simp only [Act.put, List.setIfInBounds_toArray, List.set_cons_zero, List.set_cons_succ]
  refine wpAnyH_take (i := 4) (oi := { dst := some 99, op := Op.fieldAddr 30 (Operand.tmp 98) 2, type := 0, pos := "trie.go:87", after := #[{ on := 3, ground := Ground.data }], guard := none }) (v := ?_) rfl (by kernel_rfl) (by kernel_rfl) (by kernel_rfl) (fun _ _ _ h => h) (Or.inl ⟨by rfl, ?_⟩) hHeld ?_
  rotate_left
  · intro w hSw
    clear hSw
    go_simp
    try with_reducible rfl
  try simp only [Act.put, List.setIfInBounds_toArray, List.set_cons_zero, List.set_cons_succ]
  refine wpAnyH_take (i := 5) (oi := { dst := some 100, op := Op.load 9 (Operand.tmp 99), type := 9, pos := "trie.go:87", after := #[{ on := 4, ground := Ground.data }], guard := none }) (v := ?_) rfl (by kernel_rfl) (by kernel_rfl) (by kernel_rfl) (fun _ _ _ h => h) (Or.inl ⟨by rfl, ?_⟩) hHeld ?_
  rotate_left
  · intro w hSw
    obtain ⟨k0, k1, k2, k3, _⟩ := CellsAt.c8 (HN5.out.c.grownX hSw hbu)
    go_simp
    try with_reducible rfl
  try simp only [Act.put, List.setIfInBounds_toArray, List.set_cons_zero, List.set_cons_succ]
  refine wpAnyH_take (i := 6) (oi := { dst := some 101, op := Op.move (Operand.tmp 8), type := 3, pos := "trie.go:87", after := #[], guard := none }) (v := ?_) rfl (by kernel_rfl) (by kernel_rfl) (by kernel_rfl) (fun _ _ _ h => h) (Or.inl ⟨by rfl, ?_⟩) hHeld ?_
  rotate_left
  · intro w hSw
    clear hSw
    go_simp
    try with_reducible rfl
  try simp only [Act.put, List.setIfInBounds_toArray, List.set_cons_zero, List.set_cons_succ]
  refine wpAnyH_take (i := 8) (oi := { dst := some 103, op := Op.move (Operand.tmp 0), type := 68, pos := "trie.go:87", after := #[], guard := none }) (v := ?_) rfl (by kernel_rfl) (by kernel_rfl) (by kernel_rfl) (fun _ _ _ h => h) (Or.inl ⟨by rfl, ?_⟩) hHeld ?_
  rotate_left
  · intro w hSw
    clear hSw
    go_simp
    try with_reducible rfl
  try simp only [Act.put, List.setIfInBounds_toArray, List.set_cons_zero, List.set_cons_succ]
  refine wpAnyH_take (i := 9) (oi := { dst := some 104, op := Op.nilCheck (Operand.tmp 95), type := 0, pos := "trie.go:87", after := #[{ on := 0, ground := Ground.data }], guard := none }) (v := ?_) rfl (by kernel_rfl) (by kernel_rfl) (by kernel_rfl) (fun _ _ _ h => h) (Or.inl ⟨by rfl, ?_⟩) hHeld ?_
  rotate_left
  · intro w hSw
    clear hSw
    go_simp
    try with_reducible rfl
  try simp only [Act.put, List.setIfInBounds_toArray, List.set_cons_zero, List.set_cons_succ]
  refine wpAnyH_take (i := 10) (oi := { dst := some 105, op := Op.fieldAddr 76 (Operand.tmp 104) 3, type := 0, pos := "trie.go:87", after := #[{ on := 9, ground := Ground.data }], guard := none }) (v := ?_) rfl (by kernel_rfl) (by kernel_rfl) (by kernel_rfl) (fun _ _ _ h => h) (Or.inl ⟨by rfl, ?_⟩) hHeld ?_
  rotate_left
  · intro w hSw
    clear hSw
    go_simp
    try with_reducible rfl
  try simp only [Act.put, List.setIfInBounds_toArray, List.set_cons_zero, List.set_cons_succ]
  refine wpAnyH_ready (rs := [7]) (by kernel_rfl) (by simp) ?_
  refine AllReadyH.cons (o := { dst := some 102, op := Op.call { callee := Callee.value (Operand.func 44), args := #[Operand.tmp 100, Operand.tmp 101], argTypes := #[9, 3] }, type := 3, pos := "trie.go:87", after := #[{ on := 5, ground := Ground.data }, { on := 6, ground := Ground.data }], guard := none }) rfl (fun K hK => ?_) AllReadyH.nil
  go_simp
  refine (HBT.out _).mono ?_
  rintro e wb ⟨rfl, hwb⟩
  rw [hwb]
  clear hwb
  go_wp2_with fail
  refine hK.out _ _ (hHeld) (fun hHeld => ?_)
  clear hK K
  try simp only [Act.put, List.setIfInBounds_toArray, List.set_cons_zero, List.set_cons_succ]
  refine wpAnyH_take (i := 11) (oi := { dst := some 106, op := Op.indexAddr 74 (Operand.tmp 105) (Operand.tmp 102), type := 0, pos := "trie.go:87", after := #[{ on := 10, ground := Ground.data }, { on := 7, ground := Ground.data }, { on := 0, ground := Ground.phase }, { on := 1, ground := Ground.phase }, { on := 2, ground := Ground.phase }, { on := 3, ground := Ground.phase }, { on := 4, ground := Ground.phase }, { on := 5, ground := Ground.phase }, { on := 6, ground := Ground.phase }, { on := 7, ground := Ground.phase }, { on := 8, ground := Ground.phase }], guard := none }) (v := ?_) rfl (by kernel_rfl) (by kernel_rfl) (by kernel_rfl) (fun _ _ _ h => h) (Or.inl ⟨by rfl, ?_⟩) hHeld ?_
  rotate_left
  · intro w hSw
    clear hSw
    go_simp
    try with_reducible rfl
  try simp only [Act.put, List.setIfInBounds_toArray, List.set_cons_zero, List.set_cons_succ]
  refine wpAnyH_ready (rs := [12]) (by kernel_rfl) (by simp) ?_
  refine AllReadyH.cons (o := { dst := none, op := Op.store 68 (Operand.tmp 106) (Operand.tmp 103), type := 0, pos := "trie.go:87", after := #[{ on := 11, ground := Ground.data }, { on := 8, ground := Ground.data }, { on := 7, ground := Ground.chain }, { on := 0, ground := Ground.phase }, { on := 1, ground := Ground.phase }, { on := 2, ground := Ground.phase }, { on := 3, ground := Ground.phase }, { on := 4, ground := Ground.phase }, { on := 5, ground := Ground.phase }, { on := 6, ground := Ground.phase }, { on := 7, ground := Ground.phase }, { on := 8, ground := Ground.phase }], guard := none }) rfl (fun K hK => ?_) AllReadyH.nil
  go_simp
  skip
  refine hK.out _ _ (hHeld.trans (GrownX.of_row (setCell_row _ _ _ _) rfl)) (fun hHeld => ?_)
  clear hK K
  try simp only [Act.put, List.setIfInBounds_toArray, List.set_cons_zero, List.set_cons_succ]
  refine wpAnyH_done (by kernel_rfl) ?_ _
  have HU6 : Hid (CellsAt (W5.setCell ⟨U, 6, none⟩ (.pointer (some ⟨b, 0, none⟩))).drew U #[.int .i64 p.fam, .int .u64 p.rd, .string (maskB p.addr (K : Nat)), .int .i64 (K : Nat), .bool false, .int .i64 0, .pointer (some ⟨b, 0, none⟩), .pointer none] 76) := ((HU5.out.setc 6 _).cast rfl).drew 1
  have HX6 : Hid (Below w.heap.size w (W5.setCell ⟨U, 6, none⟩ (.pointer (some ⟨b, 0, none⟩))).drew) := below_drewN (Below.setCell HX5.out hwU _) 1
  have HP6 : Hid (CellsAt (W5.setCell ⟨U, 6, none⟩ (.pointer (some ⟨b, 0, none⟩))).drew w.heap.size #[.int .i64 p.fam, .int .u64 p.rd, .string p.addr, .int .i64 (p.len : Nat)] 30) := HP5.out.grownX hHeld (Ne.symm hne5)
  clear hHeld HU5 HX5 HP5 HN5 j6 y6 hU5
  generalize (W5.setCell ⟨U, 6, none⟩ (.pointer (some ⟨b, 0, none⟩))).drew = W6 at *
  obtain ⟨p0, p1, p2, p3, _⟩ := c4_at HP6.out
  have hU6 := HU6.out.lt
  have HLT : Hid (w.heap.size < W6.heap.size) := HP6.out.lt
  have j7 : W6.cell? ⟨U, 7, none⟩ = some (.pointer none) := (CellsAt.c HU6.out 7).trans rfl
  have y7 := HU6.out.frozen 7
  go_wp2_with fail
  refine wp_region_held_drew (S := fun w' => GrownX (fun x => x = U) W6 w') (by kernel_rfl) (GrownX.of_below (below_drewN (Below.refl _ _) 1)) (fun hHeld => ?_)
  refine wpAnyH_take (i := 0) (oi := tO0) (v := ?_) rfl (by kernel_rfl) (by kernel_rfl) (by kernel_rfl) (fun _ _ _ h => h) (Or.inl ⟨by rfl, ?_⟩) hHeld ?_
  rotate_left
  · intro w hSw
    clear hSw
    try dsimp only [tO0]
    go_simp
    try with_reducible rfl
  try simp only [tO0, Act.put, List.setIfInBounds_toArray, List.set_cons_zero, List.set_cons_succ]
  refine wpAnyH_take (i := 1) (oi := tO1) (v := ?_) rfl (by kernel_rfl) (by kernel_rfl) (by kernel_rfl) (fun _ _ _ h => h) (Or.inl ⟨by rfl, ?_⟩) hHeld ?_
  rotate_left
  · intro w hSw
    clear hSw
    try dsimp only [tO1]
    go_simp
    try with_reducible rfl
  try simp only [tO1, Act.put, List.setIfInBounds_toArray, List.set_cons_zero, List.set_cons_succ]
  refine wpAnyH_take (i := 2) (oi := tO2) (v := ?_) rfl (by kernel_rfl) (by kernel_rfl) (by kernel_rfl) (fun _ _ _ h => h) (Or.inl ⟨by rfl, ?_⟩) hHeld ?_
  rotate_left
  · intro w hSw
    obtain ⟨p0, p1, p2, p3, _⟩ := c4_at (HP6.out.grownX hSw (Ne.symm hne5))
    clear hSw
    try dsimp only [tO2]
    go_simp
    try with_reducible rfl
  try simp only [tO2, Act.put, List.setIfInBounds_toArray, List.set_cons_zero, List.set_cons_succ]
  refine wpAnyH_take (i := 3) (oi := tO3) (v := ?_) rfl (by kernel_rfl) (by kernel_rfl) (by kernel_rfl) (fun _ _ _ h => h) (Or.inl ⟨by rfl, ?_⟩) hHeld ?_
  rotate_left
  · intro w hSw
    clear hSw
    try dsimp only [tO3]
    go_simp
    try with_reducible rfl
  try simp only [tO3, Act.put, List.setIfInBounds_toArray, List.set_cons_zero, List.set_cons_succ]
  refine wpAnyH_take (i := 5) (oi := tO5) (v := ?_) rfl (by kernel_rfl) (by kernel_rfl) (by kernel_rfl) (fun _ _ _ h => h) (Or.inl ⟨by rfl, ?_⟩) hHeld ?_
  rotate_left
  · intro w hSw
    obtain ⟨p0, p1, p2, p3, _⟩ := c4_at (HP6.out.grownX hSw (Ne.symm hne5))
    clear hSw
    try dsimp only [tO5]
    go_simp
    try with_reducible rfl
  try simp only [tO5, Act.put, List.setIfInBounds_toArray, List.set_cons_zero, List.set_cons_succ]
  refine wpAnyH_take (i := 6) (oi := tO6) (v := ?_) rfl (by kernel_rfl) (by kernel_rfl) (by kernel_rfl) (fun _ _ _ h => h) (Or.inl ⟨by rfl, ?_⟩) hHeld ?_
  rotate_left
  · intro w hSw
    clear hSw
    try dsimp only [tO6]
    go_simp
    try with_reducible rfl
  try simp only [tO6, Act.put, List.setIfInBounds_toArray, List.set_cons_zero, List.set_cons_succ]
  refine wpAnyH_take (i := 7) (oi := tO7) (v := ?_) rfl (by kernel_rfl) (by kernel_rfl) (by kernel_rfl) (fun _ _ _ h => h) (Or.inl ⟨by rfl, ?_⟩) hHeld ?_
  rotate_left
  · intro w hSw
    clear hSw
    try dsimp only [tO7]
    go_simp
    try with_reducible rfl
  try simp only [tO7, Act.put, List.setIfInBounds_toArray, List.set_cons_zero, List.set_cons_succ]
  refine wpAnyH_take (i := 9) (oi := tO9) (v := ?_) rfl (by kernel_rfl) (by kernel_rfl) (by kernel_rfl) (fun _ _ _ h => h) (Or.inl ⟨by rfl, ?_⟩) hHeld ?_
  rotate_left
  · intro w hSw
    clear hSw
    try dsimp only [tO9]
    go_simp
    try with_reducible rfl
  try simp only [tO9, Act.put, List.setIfInBounds_toArray, List.set_cons_zero, List.set_cons_succ]
  refine wpAnyH_take (i := 10) (oi := tO10) (v := ?_) rfl (by kernel_rfl) (by kernel_rfl) (by kernel_rfl) (fun _ _ _ h => h) (Or.inl ⟨by rfl, ?_⟩) hHeld ?_
  rotate_left
  · intro w hSw
    clear hSw
    try dsimp only [tO10]
    go_simp
    try with_reducible rfl
  try simp only [tO10, Act.put, List.setIfInBounds_toArray, List.set_cons_zero, List.set_cons_succ]
  refine wpAnyH_ready (rs := [4, 8]) (by as_aux_lemma => kernel_rfl) (by simp) ?_
  refine AllReadyH.cons (o := tO4) rfl (fun K hK => ?_) ?_
  · dsimp only [tO4]
    go_simp
    refine (HBP.out _).mono ?_
    rintro e u1 ⟨rfl, hwb⟩
    rw [hwb]
    clear hwb u1
    go_wp2_with fail
    refine hK.out _ _ hHeld (fun hHeld => ?_)
    clear hK K
    try simp only [Act.put, List.setIfInBounds_toArray, List.set_cons_zero, List.set_cons_succ]
    refine wpAnyH_ready (rs := [8]) (by as_aux_lemma => kernel_rfl) (by simp) ?_
    refine AllReadyH.cons (o := tO8) rfl (fun K hK => ?_) AllReadyH.nil
    dsimp only [tO8]
    go_simp
    obtain ⟨W8, hW8⟩ : ∃ W, W = (W6.alloc (.cells #[.int .i64 p.fam, .int .u64 p.rd, .string p.addr, .int .i64 (p.len : Nat), .bool true, .int .i64 v, .pointer none, .pointer none] 76)).drew := ⟨_, rfl⟩
    have HL8 : Hid (CellsAt W8 W6.heap.size #[.int .i64 p.fam, .int .u64 p.rd, .string p.addr, .int .i64 (p.len : Nat), .bool true, .int .i64 v, .pointer none, .pointer none] 76) := by rw [hW8]; exact (CellsAt.new' _ _ rfl _ _).drew 1
    have HG8 : Hid (Below W6.heap.size W6 W8) := by
      rw [hW8]
      exact below_drewN ((Below.refl _ _).alloc (Nat.le_refl _) _) 1
    rw [← hW8]
    refine hK.out _ _ (GrownX.of_below HG8.out) (fun hHeld => ?_)
    clear hK K hW8 j7 y7
    have j7 : W8.cell? ⟨U, 7, none⟩ = some (.pointer none) := (CellsAt.c (HU6.out.below HG8.out hU6) 7).trans rfl
    have y7 := (HU6.out.below HG8.out hU6).frozen 7
    try simp only [Act.put, List.setIfInBounds_toArray, List.set_cons_zero, List.set_cons_succ]
    refine wpAnyH_take (i := 11) (oi := tO11) (v := ?_) rfl (by kernel_rfl) (by kernel_rfl) (by kernel_rfl) (fun _ _ _ h => h) (Or.inl ⟨by rfl, ?_⟩) hHeld ?_
    rotate_left
    · intro w hSw
      clear hSw
      try dsimp only [tO11]
      go_simp
      try with_reducible rfl
    try simp only [tO11, Act.put, List.setIfInBounds_toArray, List.set_cons_zero, List.set_cons_succ]
    refine wpAnyH_ready (rs := [12]) (by as_aux_lemma => kernel_rfl) (by simp) ?_
    refine AllReadyH.cons (o := tO12) rfl (fun K hK => ?_) AllReadyH.nil
    dsimp only [tO12]
    go_simp
    refine hK.out _ _ (GrownX.trans hHeld (GrownX.of_row (setCell_row _ _ _ _) rfl)) (fun hHeld => ?_)
    clear hK K
    try simp only [Act.put, List.setIfInBounds_toArray, List.set_cons_zero, List.set_cons_succ]
    refine wpAnyH_done (by as_aux_lemma => kernel_rfl) ?_ _
    clear hHeld
    go_wp2_with fail
    go_ret2
    exact ⟨_, _, rfl, (SetAt.fork HN.out.tree (Below.setCell (HX6.out.trans (HG8.out.mono HX6.out.size)) hwU _) hwU (Nat.le_of_lt HLT.out) (Nat.ne_of_lt hU6) (HL8.out.row (setCell_row _ _ _ _) (Nat.ne_of_gt hU6))).1 (((HU6.out.below HG8.out hU6).setc 7 _).cast rfl)⟩
  refine AllReadyH.cons (o := tO8) rfl (fun K hK => ?_) AllReadyH.nil
  dsimp only [tO8]
  go_simp
  obtain ⟨W8, hW8⟩ : ∃ W, W = (W6.alloc (.cells #[.int .i64 p.fam, .int .u64 p.rd, .string p.addr, .int .i64 (p.len : Nat), .bool true, .int .i64 v, .pointer none, .pointer none] 76)).drew := ⟨_, rfl⟩
  have HL8 : Hid (CellsAt W8 W6.heap.size #[.int .i64 p.fam, .int .u64 p.rd, .string p.addr, .int .i64 (p.len : Nat), .bool true, .int .i64 v, .pointer none, .pointer none] 76) := by rw [hW8]; exact (CellsAt.new' _ _ rfl _ _).drew 1
  have HG8 : Hid (Below W6.heap.size W6 W8) := by
    rw [hW8]
    exact below_drewN ((Below.refl _ _).alloc (Nat.le_refl _) _) 1
  rw [← hW8]
  refine hK.out _ _ (GrownX.of_below HG8.out) (fun hHeld => ?_)
  clear hK K hW8 j7 y7
  have j7 : W8.cell? ⟨U, 7, none⟩ = some (.pointer none) := (CellsAt.c (HU6.out.below HG8.out hU6) 7).trans rfl
  have y7 := (HU6.out.below HG8.out hU6).frozen 7
  try simp only [Act.put, List.setIfInBounds_toArray, List.set_cons_zero, List.set_cons_succ]
  refine wpAnyH_ready (rs := [4]) (by as_aux_lemma => kernel_rfl) (by simp) ?_
  refine AllReadyH.cons (o := tO4) rfl (fun K hK => ?_) AllReadyH.nil
  dsimp only [tO4]
  go_simp
  refine (HBP.out _).mono ?_
  rintro e u5 ⟨rfl, hwb⟩
  rw [hwb]
  clear hwb u5
  go_wp2_with fail
  refine hK.out _ _ hHeld (fun hHeld => ?_)
  clear hK K
  try simp only [Act.put, List.setIfInBounds_toArray, List.set_cons_zero, List.set_cons_succ]
  refine wpAnyH_take (i := 11) (oi := tO11) (v := ?_) rfl (by kernel_rfl) (by kernel_rfl) (by kernel_rfl) (fun _ _ _ h => h) (Or.inl ⟨by rfl, ?_⟩) hHeld ?_
  rotate_left
  · intro w hSw
    clear hSw
    try dsimp only [tO11]
    go_simp
    try with_reducible rfl
  try simp only [tO11, Act.put, List.setIfInBounds_toArray, List.set_cons_zero, List.set_cons_succ]
  refine wpAnyH_ready (rs := [12]) (by as_aux_lemma => kernel_rfl) (by simp) ?_
  refine AllReadyH.cons (o := tO12) rfl (fun K hK => ?_) AllReadyH.nil
  dsimp only [tO12]
  go_simp
  refine hK.out _ _ (GrownX.trans hHeld (GrownX.of_row (setCell_row _ _ _ _) rfl)) (fun hHeld => ?_)
  clear hK K
  try simp only [Act.put, List.setIfInBounds_toArray, List.set_cons_zero, List.set_cons_succ]
  refine wpAnyH_done (by as_aux_lemma => kernel_rfl) ?_ _
  clear hHeld
  go_wp2_with fail
  go_ret2
  exact ⟨_, _, rfl, (SetAt.fork HN.out.tree (Below.setCell (HX6.out.trans (HG8.out.mono HX6.out.size)) hwU _) hwU (Nat.le_of_lt HLT.out) (Nat.ne_of_lt hU6) (HL8.out.row (setCell_row _ _ _ _) (Nat.ne_of_gt hU6))).1 (((HU6.out.below HG8.out hU6).setc 7 _).cast rfl)⟩
set_option maxRecDepth 100000 in
set_option maxHeartbeats 4000000 in
theorem set_fork1 (p a : Tp) (hp : p.Ok) (ha : a.Ok) (hf : a.fam = p.fam) (v v0 : Int) (has : Bool) (l r : Tt Int) (b : Nat) (S Sl Sr : List Nat) (ql qr : Value) (w : World) (hn : NodeAt w S b a has v0 l r Sl Sr ql qr) (hk : cmN a p ≠ a.len) (hkp : cmN a p ≠ p.len) (hbit : a.bit (cmN a p) = 1) (hbp : p.bit (cmN a p) = 0) :
    Calls Try.prog 32 #[.pointer (some ⟨b, 0, none⟩), p.v, .int .i64 v] w (SetPost w S (.node (cutT p (cmN a p)) false 0 (.node p true v .nil .nil) (.node a has v0 l r)) true) := by
  have HCM := Lib.hid (fun w => common_any a p ha hp hf w)
  have hpl := hp.le
  have hal := ha.le
  have hps := hp.small
  have has_ := ha.small
  have HN := Lib.hid hn
  have hblt := hn.c.lt
  obtain ⟨c1, c2, _, _⟩ := cmN_spec a p
  have HCUT := Lib.hid (fun w => cut_any p hp (cmN a p) c2 w)
  have hlta : cmN a p < a.len := by omega
  have HBT := Lib.hid (fun w => pbit_any a.addr (cmN a p) w (by omega) (by omega))
  rw [show bitV a.addr (cmN a p) = 1 from hbit] at HBT
  have hltp : cmN a p < p.len := by omega
  have HBP := Lib.hid (fun w => pbit_any p.addr (cmN a p) w (by omega) (by omega))
  rw [show bitV p.addr (cmN a p) = 0 from hbp] at HBP
  have e1 : (((cmN a p : Nat) : Int) == (a.len : Int)) = false := by rw [beq_eq_false_iff_ne]; omega
  have e3 : (((cmN a p : Nat) : Int) == (p.len : Int)) = false := by rw [beq_eq_false_iff_ne]; omega
  have HSB := Lib.hid hn.sub
  clear hk hkp hbit hbp
  generalize cmN a p = K at *
  clear hn hp ha hf
  unfold Tp.v at HCM HCUT ⊢
  unfold cutT at HCUT ⊢
  dsimp only at HCUT ⊢
  go_enter Try.func32, Try.ntmps32
  go_wp2_with fail
  obtain ⟨W0, hW0⟩ : ∃ W, W = w.alloc (.cells #[.int .i64 p.fam, .int .u64 p.rd, .string p.addr, .int .i64 (p.len : Nat)] 30) := ⟨_, rfl⟩
  have HP0 : Hid (CellsAt W0 w.heap.size #[.int .i64 p.fam, .int .u64 p.rd, .string p.addr, .int .i64 (p.len : Nat)] 30) := by rw [hW0]; exact CellsAt.new _ _ _
  have HB0 : Hid (Below w.heap.size w W0) := by
    rw [hW0]
    show Below _ _ _
    exact (Below.refl _ _).alloc (Nat.le_refl _) _
  rw [← hW0]
  clear hW0
  have HN0 : Hid (NodeAt W0 S b a has v0 l r Sl Sr ql qr) := HN.out.below HB0.out
  refine wp_region_held_drew (S := fun w' => Below W0.heap.size W0 w') (by kernel_rfl) (below_drewN (Below.refl _ _) 1) (fun hHeld => ?_)
  refine wpAnyH_take (i := 0) (oi := { dst := some 21, op := Op.move (Operand.tmp 0), type := 68, pos := "trie.go:73", after := #[], guard := none }) (v := ?_) rfl (by kernel_rfl) (by kernel_rfl) (by kernel_rfl) (fun _ _ _ h => h) (Or.inl ⟨by rfl, ?_⟩) hHeld ?_
  rotate_left
  · intro w hSw
    clear hSw
    go_simp
    try with_reducible rfl
  try simp only [Act.put, List.setIfInBounds_toArray, List.set_cons_zero, List.set_cons_succ]
  refine wpAnyH_take (i := 1) (oi := { dst := some 22, op := Op.nilCheck (Operand.tmp 21), type := 0, pos := "trie.go:73", after := #[{ on := 0, ground := Ground.data }], guard := none }) (v := ?_) rfl (by kernel_rfl) (by kernel_rfl) (by kernel_rfl) (fun _ _ _ h => h) (Or.inl ⟨by rfl, ?_⟩) hHeld ?_
  rotate_left
  · intro w hSw
    clear hSw
    go_simp
    try with_reducible rfl
  try simp only [Act.put, List.setIfInBounds_toArray, List.set_cons_zero, List.set_cons_succ]
  refine wpAnyH_take (i := 2) (oi := { dst := some 23, op := Op.fieldAddr 76 (Operand.tmp 22) 0, type := 0, pos := "trie.go:73", after := #[{ on := 1, ground := Ground.data }], guard := none }) (v := ?_) rfl (by kernel_rfl) (by kernel_rfl) (by kernel_rfl) (fun _ _ _ h => h) (Or.inl ⟨by rfl, ?_⟩) hHeld ?_
  rotate_left
  · intro w hSw
    clear hSw
    go_simp
    try with_reducible rfl
  try simp only [Act.put, List.setIfInBounds_toArray, List.set_cons_zero, List.set_cons_succ]
  refine wpAnyH_take (i := 3) (oi := { dst := some 24, op := Op.load 30 (Operand.tmp 23), type := 30, pos := "trie.go:73", after := #[{ on := 2, ground := Ground.data }], guard := none }) (v := ?_) rfl (by kernel_rfl) (by kernel_rfl) (by kernel_rfl) (fun _ _ _ h => h) (Or.inl ⟨by rfl, ?_⟩) hHeld ?_
  rotate_left
  · intro w hSw
    obtain ⟨k0, k1, k2, k3, _⟩ := (HN0.out.below hSw).k
    obtain ⟨p0, p1, p2, p3, _⟩ := c4_at (HP0.out.below hSw HP0.out.lt)
    go_simp
    try with_reducible rfl
  try simp only [Act.put, List.setIfInBounds_toArray, List.set_cons_zero, List.set_cons_succ]
  refine wpAnyH_take (i := 4) (oi := { dst := some 25, op := Op.load 30 (Operand.tmp 4), type := 30, pos := "trie.go:73", after := #[], guard := none }) (v := ?_) rfl (by kernel_rfl) (by kernel_rfl) (by kernel_rfl) (fun _ _ _ h => h) (Or.inl ⟨by rfl, ?_⟩) hHeld ?_
  rotate_left
  · intro w hSw
    obtain ⟨k0, k1, k2, k3, _⟩ := (HN0.out.below hSw).k
    obtain ⟨p0, p1, p2, p3, _⟩ := c4_at (HP0.out.below hSw HP0.out.lt)
    go_simp
    try with_reducible rfl
  try simp only [Act.put, List.setIfInBounds_toArray, List.set_cons_zero, List.set_cons_succ]
  refine wpAnyH_ready (rs := [5]) (by kernel_rfl) (by simp) ?_
  refine AllReadyH.cons (o := { dst := some 26, op := Op.call { callee := Callee.value (Operand.func 43), args := #[Operand.tmp 24, Operand.tmp 25], argTypes := #[30, 30] }, type := 3, pos := "trie.go:73", after := #[{ on := 3, ground := Ground.data }, { on := 4, ground := Ground.data }], guard := none }) rfl (fun K hK => ?_) AllReadyH.nil
  go_simp
  refine (HCM.out _).mono ?_
  rintro e w9 ⟨rfl, hb9⟩
  go_wp2_with fail
  refine hK.out _ _ (hHeld.trans (hb9.mono hHeld.size)) (fun hHeld => ?_)
  clear hK K
  try simp only [Act.put, List.setIfInBounds_toArray, List.set_cons_zero, List.set_cons_succ]
  refine wpAnyH_take (i := 6) (oi := { dst := some 8, op := Op.assign (Operand.tmp 26), type := 3, pos := "trie.go:73", after := #[{ on := 5, ground := Ground.data }, { on := 5, ground := Ground.chain }, { on := 0, ground := Ground.phase }, { on := 1, ground := Ground.phase }, { on := 2, ground := Ground.phase }, { on := 3, ground := Ground.phase }, { on := 4, ground := Ground.phase }, { on := 5, ground := Ground.phase }], guard := none }) (v := ?_) rfl (by kernel_rfl) (by kernel_rfl) (by kernel_rfl) (fun _ _ _ h => h) (Or.inl ⟨by rfl, ?_⟩) hHeld ?_
  rotate_left
  · intro w hSw
    clear hSw
    go_simp
    try with_reducible rfl
  try simp only [Act.put, List.setIfInBounds_toArray, List.set_cons_zero, List.set_cons_succ]
  refine wpAnyH_done (by kernel_rfl) ?_ _
  have HB1 : Hid (Below w.heap.size w w9) := HB0.out.trans (hHeld.mono HB0.out.size)
  have HN1 : Hid (NodeAt w9 S b a has v0 l r Sl Sr ql qr) := HN.out.below HB1.out
  have HP1 : Hid (CellsAt w9 w.heap.size #[.int .i64 p.fam, .int .u64 p.rd, .string p.addr, .int .i64 (p.len : Nat)] 30) := HP0.out.below hHeld HP0.out.lt
  clear hHeld HN0 HP0 HB0 hb9
  obtain ⟨k0, k1, k2, k3, k4, k5, k6, k7, z4, z5, z6, z7⟩ := HN1.out.k
  obtain ⟨p0, p1, p2, p3, _⟩ := c4_at HP1.out
  go_wp2_with fail
  refine (HCUT.out _).mono ?_
  rintro e w3 ⟨rfl, hb3⟩
  have HB3 : Hid (Below w.heap.size w w3) := HB1.out.trans (hb3.mono HB1.out.size)
  have HN3 : Hid (NodeAt w3 S b a has v0 l r Sl Sr ql qr) := HN.out.below HB3.out
  have HP3 : Hid (CellsAt w3 w.heap.size #[.int .i64 p.fam, .int .u64 p.rd, .string p.addr, .int .i64 (p.len : Nat)] 30) := HP1.out.below hb3 HP1.out.lt
  have hlt3 : w.heap.size < w3.heap.size := HP3.out.lt
  clear hb3 HN1 HP1 HB1 k0 k1 k2 k3 k4 k5 k6 k7 z4 z5 z6 z7 p0 p1 p2 p3
  obtain ⟨k0, k1, k2, k3, k4, k5, k6, k7, z4, z5, z6, z7⟩ := HN3.out.k
  obtain ⟨p0, p1, p2, p3, _⟩ := c4_at HP3.out
  go_wp2_with fail
  refine wp_name fun W5 hW5 => ?_
  have HU5 : Hid (CellsAt W5 (w3.heap.size + 1) #[.int .i64 p.fam, .int .u64 p.rd, .string (maskB p.addr (K : Nat)), .int .i64 (K : Nat), .bool false, .int .i64 0, .pointer none, .pointer none] 76) := by
    rw [hW5]
    exact CellsAt.new' _ _ (by simp) _ _
  have HB5 : Hid (Below w3.heap.size w3 W5) := by
    rw [hW5]
    clear hW5 HU5 HP3 HN3 HB3 p0 p1 p2 p3 k0 k1 k2 k3 k4 k5 k6 k7 z4 z5 z6 z7
    show Below _ _ _
    repeat' (first | with_reducible exact Below.refl _ _ | with_reducible refine Below.setCell ?_ (by simp) _ | with_reducible refine Below.alloc ?_ (by simp <;> omega) _)
  clear hW5
  have HP5 : Hid (CellsAt W5 w.heap.size #[.int .i64 p.fam, .int .u64 p.rd, .string p.addr, .int .i64 (p.len : Nat)] 30) := HP3.out.below HB5.out HP3.out.lt
  have HX5 : Hid (Below w.heap.size w W5) := HB3.out.trans (HB5.out.mono HB3.out.size)
  have HN5 : Hid (NodeAt W5 S b a has v0 l r Sl Sr ql qr) := HN.out.below HX5.out
  have hne5 : w3.heap.size + 1 ≠ w.heap.size := by omega
  have hbu : b ≠ w3.heap.size + 1 := by omega
  clear HP3 HN3 HB3 HB5 p0 p1 p2 p3 k0 k1 k2 k3 k4 k5 k6 k7 z4 z5 z6 z7
  have hU5 := HU5.out.lt
  have hwU : w.heap.size ≤ w3.heap.size + 1 := by omega
  clear hlt3
  generalize w3.heap.size + 1 = U at *
  have j7 : W5.cell? ⟨U, 7, none⟩ = some (.pointer none) := (CellsAt.c HU5.out 7).trans rfl
  have y7 := HU5.out.frozen 7
  refine wp_region_held_drew (S := fun w' => GrownX (fun x => x = U) W5 w') (by kernel_rfl) (GrownX.of_below (below_drewN (Below.refl _ _) 1)) (fun hHeld => ?_)
  refine wpAnyH_take (i := 0) (oi := { dst := some 95, op := Op.move (Operand.tmp 14), type := 68, pos := "trie.go:87", after := #[], guard := none }) (v := ?_) rfl (by kernel_rfl) (by kernel_rfl) (by kernel_rfl) (fun _ _ _ h => h) (Or.inl ⟨by rfl, ?_⟩) hHeld ?_
  rotate_left
  · intro w hSw
    clear hSw
    go_simp
    try with_reducible rfl
  try simp only [Act.put, List.setIfInBounds_toArray, List.set_cons_zero, List.set_cons_succ]
  refine wpAnyH_take (i := 1) (oi := { dst := some 96, op := Op.move (Operand.tmp 0), type := 68, pos := "trie.go:87", after := #[], guard := none }) (v := ?_) rfl (by kernel_rfl) (by kernel_rfl) (by kernel_rfl) (fun _ _ _ h => h) (Or.inl ⟨by rfl, ?_⟩) hHeld ?_
  rotate_left
  · intro w hSw
    clear hSw
    go_simp
    try with_reducible rfl
  try simp only [Act.put, List.setIfInBounds_toArray, List.set_cons_zero, List.set_cons_succ]
  refine wpAnyH_take (i := 2) (oi := { dst := some 97, op := Op.nilCheck (Operand.tmp 96), type := 0, pos := "trie.go:87", after := #[{ on := 1, ground := Ground.data }], guard := none }) (v := ?_) rfl (by kernel_rfl) (by kernel_rfl) (by kernel_rfl) (fun _ _ _ h => h) (Or.inl ⟨by rfl, ?_⟩) hHeld ?_
  rotate_left
  · intro w hSw
    clear hSw
    go_simp
    try with_reducible rfl
  try simp only [Act.put, List.setIfInBounds_toArray, List.set_cons_zero, List.set_cons_succ]
  refine wpAnyH_take (i := 3) (oi := { dst := some 98, op := Op.fieldAddr 76 (Operand.tmp 97) 0, type := 0, pos := "trie.go:87", after := #[{ on := 2, ground := Ground.data }], guard := none }) (v := ?_) rfl (by kernel_rfl) (by kernel_rfl) (by kernel_rfl) (fun _ _ _ h => h) (Or.inl ⟨by rfl, ?_⟩) hHeld ?_
  rotate_left
  · intro w hSw
    clear hSw
    go_simp
    try with_reducible rfl
  try simp only [Act.put, List.setIfInBounds_toArray, List.set_cons_zero, List.set_cons_succ]
  refine wpAnyH_take (i := 4) (oi := { dst := some 99, op := Op.fieldAddr 30 (Operand.tmp 98) 2, type := 0, pos := "trie.go:87", after := #[{ on := 3, ground := Ground.data }], guard := none }) (v := ?_) rfl (by kernel_rfl) (by kernel_rfl) (by kernel_rfl) (fun _ _ _ h => h) (Or.inl ⟨by rfl, ?_⟩) hHeld ?_
  rotate_left
  · intro w hSw
    clear hSw
    go_simp
    try with_reducible rfl
  try simp only [Act.put, List.setIfInBounds_toArray, List.set_cons_zero, List.set_cons_succ]
  refine wpAnyH_take (i := 5) (oi := { dst := some 100, op := Op.load 9 (Operand.tmp 99), type := 9, pos := "trie.go:87", after := #[{ on := 4, ground := Ground.data }], guard := none }) (v := ?_) rfl (by kernel_rfl) (by kernel_rfl) (by kernel_rfl) (fun _ _ _ h => h) (Or.inl ⟨by rfl, ?_⟩) hHeld ?_
  rotate_left
  · intro w hSw
    obtain ⟨k0, k1, k2, k3, _⟩ := CellsAt.c8 (HN5.out.c.grownX hSw hbu)
    go_simp
    try with_reducible rfl
  try simp only [Act.put, List.setIfInBounds_toArray, List.set_cons_zero, List.set_cons_succ]
  refine wpAnyH_take (i := 6) (oi := { dst := some 101, op := Op.move (Operand.tmp 8), type := 3, pos := "trie.go:87", after := #[], guard := none }) (v := ?_) rfl (by kernel_rfl) (by kernel_rfl) (by kernel_rfl) (fun _ _ _ h => h) (Or.inl ⟨by rfl, ?_⟩) hHeld ?_
  rotate_left
  · intro w hSw
    clear hSw
    go_simp
    try with_reducible rfl
  try simp only [Act.put, List.setIfInBounds_toArray, List.set_cons_zero, List.set_cons_succ]
  refine wpAnyH_take (i := 8) (oi := { dst := some 103, op := Op.move (Operand.tmp 0), type := 68, pos := "trie.go:87", after := #[], guard := none }) (v := ?_) rfl (by kernel_rfl) (by kernel_rfl) (by kernel_rfl) (fun _ _ _ h => h) (Or.inl ⟨by rfl, ?_⟩) hHeld ?_
  rotate_left
  · intro w hSw
    clear hSw
    go_simp
    try with_reducible rfl
  try simp only [Act.put, List.setIfInBounds_toArray, List.set_cons_zero, List.set_cons_succ]
  refine wpAnyH_take (i := 9) (oi := { dst := some 104, op := Op.nilCheck (Operand.tmp 95), type := 0, pos := "trie.go:87", after := #[{ on := 0, ground := Ground.data }], guard := none }) (v := ?_) rfl (by kernel_rfl) (by kernel_rfl) (by kernel_rfl) (fun _ _ _ h => h) (Or.inl ⟨by rfl, ?_⟩) hHeld ?_
  rotate_left
  · intro w hSw
    clear hSw
    go_simp
    try with_reducible rfl
  try simp only [Act.put, List.setIfInBounds_toArray, List.set_cons_zero, List.set_cons_succ]
  refine wpAnyH_take (i := 10) (oi := { dst := some 105, op := Op.fieldAddr 76 (Operand.tmp 104) 3, type := 0, pos := "trie.go:87", after := #[{ on := 9, ground := Ground.data }], guard := none }) (v := ?_) rfl (by kernel_rfl) (by kernel_rfl) (by kernel_rfl) (fun _ _ _ h => h) (Or.inl ⟨by rfl, ?_⟩) hHeld ?_
  rotate_left
  · intro w hSw
    clear hSw
    go_simp
    try with_reducible rfl
  try simp only [Act.put, List.setIfInBounds_toArray, List.set_cons_zero, List.set_cons_succ]
  refine wpAnyH_ready (rs := [7]) (by kernel_rfl) (by simp) ?_
  refine AllReadyH.cons (o := { dst := some 102, op := Op.call { callee := Callee.value (Operand.func 44), args := #[Operand.tmp 100, Operand.tmp 101], argTypes := #[9, 3] }, type := 3, pos := "trie.go:87", after := #[{ on := 5, ground := Ground.data }, { on := 6, ground := Ground.data }], guard := none }) rfl (fun K hK => ?_) AllReadyH.nil
  go_simp
  refine (HBT.out _).mono ?_
  rintro e wb ⟨rfl, hwb⟩
  rw [hwb]
  clear hwb
  go_wp2_with fail
  refine hK.out _ _ (hHeld) (fun hHeld => ?_)
  clear hK K
  try simp only [Act.put, List.setIfInBounds_toArray, List.set_cons_zero, List.set_cons_succ]
  refine wpAnyH_take (i := 11) (oi := { dst := some 106, op := Op.indexAddr 74 (Operand.tmp 105) (Operand.tmp 102), type := 0, pos := "trie.go:87", after := #[{ on := 10, ground := Ground.data }, { on := 7, ground := Ground.data }, { on := 0, ground := Ground.phase }, { on := 1, ground := Ground.phase }, { on := 2, ground := Ground.phase }, { on := 3, ground := Ground.phase }, { on := 4, ground := Ground.phase }, { on := 5, ground := Ground.phase }, { on := 6, ground := Ground.phase }, { on := 7, ground := Ground.phase }, { on := 8, ground := Ground.phase }], guard := none }) (v := ?_) rfl (by kernel_rfl) (by kernel_rfl) (by kernel_rfl) (fun _ _ _ h => h) (Or.inl ⟨by rfl, ?_⟩) hHeld ?_
  rotate_left
  · intro w hSw
    clear hSw
    go_simp
    try with_reducible rfl
  try simp only [Act.put, List.setIfInBounds_toArray, List.set_cons_zero, List.set_cons_succ]
  refine wpAnyH_ready (rs := [12]) (by kernel_rfl) (by simp) ?_
  refine AllReadyH.cons (o := { dst := none, op := Op.store 68 (Operand.tmp 106) (Operand.tmp 103), type := 0, pos := "trie.go:87", after := #[{ on := 11, ground := Ground.data }, { on := 8, ground := Ground.data }, { on := 7, ground := Ground.chain }, { on := 0, ground := Ground.phase }, { on := 1, ground := Ground.phase }, { on := 2, ground := Ground.phase }, { on := 3, ground := Ground.phase }, { on := 4, ground := Ground.phase }, { on := 5, ground := Ground.phase }, { on := 6, ground := Ground.phase }, { on := 7, ground := Ground.phase }, { on := 8, ground := Ground.phase }], guard := none }) rfl (fun K hK => ?_) AllReadyH.nil
  go_simp
  skip
  refine hK.out _ _ (hHeld.trans (GrownX.of_row (setCell_row _ _ _ _) rfl)) (fun hHeld => ?_)
  clear hK K
  try simp only [Act.put, List.setIfInBounds_toArray, List.set_cons_zero, List.set_cons_succ]
  refine wpAnyH_done (by kernel_rfl) ?_ _
  have HU6 : Hid (CellsAt (W5.setCell ⟨U, 7, none⟩ (.pointer (some ⟨b, 0, none⟩))).drew U #[.int .i64 p.fam, .int .u64 p.rd, .string (maskB p.addr (K : Nat)), .int .i64 (K : Nat), .bool false, .int .i64 0, .pointer none, .pointer (some ⟨b, 0, none⟩)] 76) := ((HU5.out.setc 7 _).cast rfl).drew 1
  have HX6 : Hid (Below w.heap.size w (W5.setCell ⟨U, 7, none⟩ (.pointer (some ⟨b, 0, none⟩))).drew) := below_drewN (Below.setCell HX5.out hwU _) 1
  have HP6 : Hid (CellsAt (W5.setCell ⟨U, 7, none⟩ (.pointer (some ⟨b, 0, none⟩))).drew w.heap.size #[.int .i64 p.fam, .int .u64 p.rd, .string p.addr, .int .i64 (p.len : Nat)] 30) := HP5.out.grownX hHeld (Ne.symm hne5)
  clear hHeld HU5 HX5 HP5 HN5 j7 y7 hU5
  generalize (W5.setCell ⟨U, 7, none⟩ (.pointer (some ⟨b, 0, none⟩))).drew = W6 at *
  obtain ⟨p0, p1, p2, p3, _⟩ := c4_at HP6.out
  have hU6 := HU6.out.lt
  have HLT : Hid (w.heap.size < W6.heap.size) := HP6.out.lt
  have j6 : W6.cell? ⟨U, 6, none⟩ = some (.pointer none) := (CellsAt.c HU6.out 6).trans rfl
  have y6 := HU6.out.frozen 6
  go_wp2_with fail
  refine wp_region_held_drew (S := fun w' => GrownX (fun x => x = U) W6 w') (by kernel_rfl) (GrownX.of_below (below_drewN (Below.refl _ _) 1)) (fun hHeld => ?_)
  refine wpAnyH_take (i := 0) (oi := tO0) (v := ?_) rfl (by kernel_rfl) (by kernel_rfl) (by kernel_rfl) (fun _ _ _ h => h) (Or.inl ⟨by rfl, ?_⟩) hHeld ?_
  rotate_left
  · intro w hSw
    clear hSw
    try dsimp only [tO0]
    go_simp
    try with_reducible rfl
  try simp only [tO0, Act.put, List.setIfInBounds_toArray, List.set_cons_zero, List.set_cons_succ]
  refine wpAnyH_take (i := 1) (oi := tO1) (v := ?_) rfl (by kernel_rfl) (by kernel_rfl) (by kernel_rfl) (fun _ _ _ h => h) (Or.inl ⟨by rfl, ?_⟩) hHeld ?_
  rotate_left
  · intro w hSw
    clear hSw
    try dsimp only [tO1]
    go_simp
    try with_reducible rfl
  try simp only [tO1, Act.put, List.setIfInBounds_toArray, List.set_cons_zero, List.set_cons_succ]
  refine wpAnyH_take (i := 2) (oi := tO2) (v := ?_) rfl (by kernel_rfl) (by kernel_rfl) (by kernel_rfl) (fun _ _ _ h => h) (Or.inl ⟨by rfl, ?_⟩) hHeld ?_
  rotate_left
  · intro w hSw
    obtain ⟨p0, p1, p2, p3, _⟩ := c4_at (HP6.out.grownX hSw (Ne.symm hne5))
    clear hSw
    try dsimp only [tO2]
    go_simp
    try with_reducible rfl
  try simp only [tO2, Act.put, List.setIfInBounds_toArray, List.set_cons_zero, List.set_cons_succ]
  refine wpAnyH_take (i := 3) (oi := tO3) (v := ?_) rfl (by kernel_rfl) (by kernel_rfl) (by kernel_rfl) (fun _ _ _ h => h) (Or.inl ⟨by rfl, ?_⟩) hHeld ?_
  rotate_left
  · intro w hSw
    clear hSw
    try dsimp only [tO3]
    go_simp
    try with_reducible rfl
  try simp only [tO3, Act.put, List.setIfInBounds_toArray, List.set_cons_zero, List.set_cons_succ]
  refine wpAnyH_take (i := 5) (oi := tO5) (v := ?_) rfl (by kernel_rfl) (by kernel_rfl) (by kernel_rfl) (fun _ _ _ h => h) (Or.inl ⟨by rfl, ?_⟩) hHeld ?_
  rotate_left
  · intro w hSw
    obtain ⟨p0, p1, p2, p3, _⟩ := c4_at (HP6.out.grownX hSw (Ne.symm hne5))
    clear hSw
    try dsimp only [tO5]
    go_simp
    try with_reducible rfl
  try simp only [tO5, Act.put, List.setIfInBounds_toArray, List.set_cons_zero, List.set_cons_succ]
  refine wpAnyH_take (i := 6) (oi := tO6) (v := ?_) rfl (by kernel_rfl) (by kernel_rfl) (by kernel_rfl) (fun _ _ _ h => h) (Or.inl ⟨by rfl, ?_⟩) hHeld ?_
  rotate_left
  · intro w hSw
    clear hSw
    try dsimp only [tO6]
    go_simp
    try with_reducible rfl
  try simp only [tO6, Act.put, List.setIfInBounds_toArray, List.set_cons_zero, List.set_cons_succ]
  refine wpAnyH_take (i := 7) (oi := tO7) (v := ?_) rfl (by kernel_rfl) (by kernel_rfl) (by kernel_rfl) (fun _ _ _ h => h) (Or.inl ⟨by rfl, ?_⟩) hHeld ?_
  rotate_left
  · intro w hSw
    clear hSw
    try dsimp only [tO7]
    go_simp
    try with_reducible rfl
  try simp only [tO7, Act.put, List.setIfInBounds_toArray, List.set_cons_zero, List.set_cons_succ]
  refine wpAnyH_take (i := 9) (oi := tO9) (v := ?_) rfl (by kernel_rfl) (by kernel_rfl) (by kernel_rfl) (fun _ _ _ h => h) (Or.inl ⟨by rfl, ?_⟩) hHeld ?_
  rotate_left
  · intro w hSw
    clear hSw
    try dsimp only [tO9]
    go_simp
    try with_reducible rfl
  try simp only [tO9, Act.put, List.setIfInBounds_toArray, List.set_cons_zero, List.set_cons_succ]
  refine wpAnyH_take (i := 10) (oi := tO10) (v := ?_) rfl (by kernel_rfl) (by kernel_rfl) (by kernel_rfl) (fun _ _ _ h => h) (Or.inl ⟨by rfl, ?_⟩) hHeld ?_
  rotate_left
  · intro w hSw
    clear hSw
    try dsimp only [tO10]
    go_simp
    try with_reducible rfl
  try simp only [tO10, Act.put, List.setIfInBounds_toArray, List.set_cons_zero, List.set_cons_succ]
  refine wpAnyH_ready (rs := [4, 8]) (by as_aux_lemma => kernel_rfl) (by simp) ?_
  refine AllReadyH.cons (o := tO4) rfl (fun K hK => ?_) ?_
  · dsimp only [tO4]
    go_simp
    refine (HBP.out _).mono ?_
    rintro e u1 ⟨rfl, hwb⟩
    rw [hwb]
    clear hwb u1
    go_wp2_with fail
    refine hK.out _ _ hHeld (fun hHeld => ?_)
    clear hK K
    try simp only [Act.put, List.setIfInBounds_toArray, List.set_cons_zero, List.set_cons_succ]
    refine wpAnyH_ready (rs := [8]) (by as_aux_lemma => kernel_rfl) (by simp) ?_
    refine AllReadyH.cons (o := tO8) rfl (fun K hK => ?_) AllReadyH.nil
    dsimp only [tO8]
    go_simp
    obtain ⟨W8, hW8⟩ : ∃ W, W = (W6.alloc (.cells #[.int .i64 p.fam, .int .u64 p.rd, .string p.addr, .int .i64 (p.len : Nat), .bool true, .int .i64 v, .pointer none, .pointer none] 76)).drew := ⟨_, rfl⟩
    have HL8 : Hid (CellsAt W8 W6.heap.size #[.int .i64 p.fam, .int .u64 p.rd, .string p.addr, .int .i64 (p.len : Nat), .bool true, .int .i64 v, .pointer none, .pointer none] 76) := by rw [hW8]; exact (CellsAt.new' _ _ rfl _ _).drew 1
    have HG8 : Hid (Below W6.heap.size W6 W8) := by
      rw [hW8]
      exact below_drewN ((Below.refl _ _).alloc (Nat.le_refl _) _) 1
    rw [← hW8]
    refine hK.out _ _ (GrownX.of_below HG8.out) (fun hHeld => ?_)
    clear hK K hW8 j6 y6
    have j6 : W8.cell? ⟨U, 6, none⟩ = some (.pointer none) := (CellsAt.c (HU6.out.below HG8.out hU6) 6).trans rfl
    have y6 := (HU6.out.below HG8.out hU6).frozen 6
    try simp only [Act.put, List.setIfInBounds_toArray, List.set_cons_zero, List.set_cons_succ]
    refine wpAnyH_take (i := 11) (oi := tO11) (v := ?_) rfl (by kernel_rfl) (by kernel_rfl) (by kernel_rfl) (fun _ _ _ h => h) (Or.inl ⟨by rfl, ?_⟩) hHeld ?_
    rotate_left
    · intro w hSw
      clear hSw
      try dsimp only [tO11]
      go_simp
      try with_reducible rfl
    try simp only [tO11, Act.put, List.setIfInBounds_toArray, List.set_cons_zero, List.set_cons_succ]
    refine wpAnyH_ready (rs := [12]) (by as_aux_lemma => kernel_rfl) (by simp) ?_
    refine AllReadyH.cons (o := tO12) rfl (fun K hK => ?_) AllReadyH.nil
    dsimp only [tO12]
    go_simp
    refine hK.out _ _ (GrownX.trans hHeld (GrownX.of_row (setCell_row _ _ _ _) rfl)) (fun hHeld => ?_)
    clear hK K
    try simp only [Act.put, List.setIfInBounds_toArray, List.set_cons_zero, List.set_cons_succ]
    refine wpAnyH_done (by as_aux_lemma => kernel_rfl) ?_ _
    clear hHeld
    go_wp2_with fail
    go_ret2
    exact ⟨_, _, rfl, (SetAt.fork HN.out.tree (Below.setCell (HX6.out.trans (HG8.out.mono HX6.out.size)) hwU _) hwU (Nat.le_of_lt HLT.out) (Nat.ne_of_lt hU6) (HL8.out.row (setCell_row _ _ _ _) (Nat.ne_of_gt hU6))).2 (((HU6.out.below HG8.out hU6).setc 6 _).cast rfl)⟩
  refine AllReadyH.cons (o := tO8) rfl (fun K hK => ?_) AllReadyH.nil
  dsimp only [tO8]
  go_simp
  obtain ⟨W8, hW8⟩ : ∃ W, W = (W6.alloc (.cells #[.int .i64 p.fam, .int .u64 p.rd, .string p.addr, .int .i64 (p.len : Nat), .bool true, .int .i64 v, .pointer none, .pointer none] 76)).drew := ⟨_, rfl⟩
  have HL8 : Hid (CellsAt W8 W6.heap.size #[.int .i64 p.fam, .int .u64 p.rd, .string p.addr, .int .i64 (p.len : Nat), .bool true, .int .i64 v, .pointer none, .pointer none] 76) := by rw [hW8]; exact (CellsAt.new' _ _ rfl _ _).drew 1
  have HG8 : Hid (Below W6.heap.size W6 W8) := by
    rw [hW8]
    exact below_drewN ((Below.refl _ _).alloc (Nat.le_refl _) _) 1
  rw [← hW8]
  refine hK.out _ _ (GrownX.of_below HG8.out) (fun hHeld => ?_)
  clear hK K hW8 j6 y6
  have j6 : W8.cell? ⟨U, 6, none⟩ = some (.pointer none) := (CellsAt.c (HU6.out.below HG8.out hU6) 6).trans rfl
  have y6 := (HU6.out.below HG8.out hU6).frozen 6
  try simp only [Act.put, List.setIfInBounds_toArray, List.set_cons_zero, List.set_cons_succ]
  refine wpAnyH_ready (rs := [4]) (by as_aux_lemma => kernel_rfl) (by simp) ?_
  refine AllReadyH.cons (o := tO4) rfl (fun K hK => ?_) AllReadyH.nil
  dsimp only [tO4]
  go_simp
  refine (HBP.out _).mono ?_
  rintro e u5 ⟨rfl, hwb⟩
  rw [hwb]
  clear hwb u5
  go_wp2_with fail
  refine hK.out _ _ hHeld (fun hHeld => ?_)
  clear hK K
  try simp only [Act.put, List.setIfInBounds_toArray, List.set_cons_zero, List.set_cons_succ]
  refine wpAnyH_take (i := 11) (oi := tO11) (v := ?_) rfl (by kernel_rfl) (by kernel_rfl) (by kernel_rfl) (fun _ _ _ h => h) (Or.inl ⟨by rfl, ?_⟩) hHeld ?_
  rotate_left
  · intro w hSw
    clear hSw
    try dsimp only [tO11]
    go_simp
    try with_reducible rfl
  try simp only [tO11, Act.put, List.setIfInBounds_toArray, List.set_cons_zero, List.set_cons_succ]
  refine wpAnyH_ready (rs := [12]) (by as_aux_lemma => kernel_rfl) (by simp) ?_
  refine AllReadyH.cons (o := tO12) rfl (fun K hK => ?_) AllReadyH.nil
  dsimp only [tO12]
  go_simp
  refine hK.out _ _ (GrownX.trans hHeld (GrownX.of_row (setCell_row _ _ _ _) rfl)) (fun hHeld => ?_)
  clear hK K
  try simp only [Act.put, List.setIfInBounds_toArray, List.set_cons_zero, List.set_cons_succ]
  refine wpAnyH_done (by as_aux_lemma => kernel_rfl) ?_ _
  clear hHeld
  go_wp2_with fail
  go_ret2
  exact ⟨_, _, rfl, (SetAt.fork HN.out.tree (Below.setCell (HX6.out.trans (HG8.out.mono HX6.out.size)) hwU _) hwU (Nat.le_of_lt HLT.out) (Nat.ne_of_lt hU6) (HL8.out.row (setCell_row _ _ _ _) (Nat.ne_of_gt hU6))).2 (((HU6.out.below HG8.out hU6).setc 6 _).cast rfl)⟩
theorem set_any (p : Tp) (hp : p.Ok) (v : Int) : ∀ (T : Tt Int) (C : Tp → Prop) (S : List Nat) (q : Value) (w : World), T.Good p.fam p.rd C → TreeAt w S q T →
    Calls Try.prog 32 #[q, p.v, .int .i64 v] w (SetPost w S (T.set 0 p v) (T.fresh p))
  | .nil, C, S, q, w, _, ht => by
    obtain ⟨rfl, rfl⟩ := ht
    exact set_nil p v w
  | .node a has v0 l r, C, S, q, w, hg, ht => by
    obtain ⟨h1, h2, h3, h4, h5, h6⟩ := hg
    obtain ⟨b, Sl, Sr, ql, qr, rfl, hn⟩ := ht.parts
    unfold Tt.set Tt.fresh
    by_cases hk : cmN a p = a.len
    · rw [if_pos hk, if_pos hk]
      by_cases hl : a.len = p.len
      · rw [if_pos hl, if_pos hl]
        exact set_here p a hp h1 h2 v v0 has l r b S Sl Sr ql qr w hn hk hl
      · rw [if_neg hl, if_neg hl]
        by_cases hb : p.bit a.len = 0
        · rw [if_pos hb, if_pos hb]
          exact set_left p a hp h1 h2 v v0 has l r b S Sl Sr ql qr w hn hk hl hb (fun w1 hw => set_any p hp v l _ Sl ql w1 h5 (hn.below hw).l)
        · rw [if_neg hb, if_neg hb]
          exact set_right p a hp h1 h2 v v0 has l r b S Sl Sr ql qr w hn hk hl (bit_one hb) (fun w1 hw => set_any p hp v r _ Sr qr w1 h6 (hn.below hw).r)
    · rw [if_neg hk, if_neg hk]
      by_cases hkp : cmN a p = p.len
      · rw [if_pos hkp]
        by_cases hb : a.bit (cmN a p) = 0
        · rw [if_pos hb]
          exact set_up0 p a hp h1 h2 v v0 has l r b S Sl Sr ql qr w hn hk hkp hb
        · rw [if_neg hb]
          exact set_up1 p a hp h1 h2 v v0 has l r b S Sl Sr ql qr w hn hk hkp (bit_one hb)
      · rw [if_neg hkp]
        have hdf : p.bit (cmN a p) ≠ a.bit (cmN a p) := (fork h1 hp h2 h3 rfl rfl hk).2.2 hkp |>.2
        by_cases hb : a.bit (cmN a p) = 0
        · rw [if_pos hb]
          exact set_fork0 p a hp h1 h2 v v0 has l r b S Sl Sr ql qr w hn hk hkp hb (bit_one (by rw [hb] at hdf; exact hdf))
        · rw [if_neg hb]
          refine set_fork1 p a hp h1 h2 v v0 has l r b S Sl Sr ql qr w hn hk hkp (bit_one hb) ?_
          rcases p.bit_two (cmN a p) with h | h
          · exact h
          · exact absurd (h.trans (bit_one hb).symm) hdf
end Go.Proofs.Ythnjepehiddogaa
