/-
  Contract of trie.set: a value laid in a tree of prefixes in memory. Conditions: none.
-/
import Derived.Test.YthnjepehiddogaaTrI
import Derived.Deep.RegionHeld3
import Derived.BigRegion
set_option linter.unusedVariables false
set_option linter.unusedSimpArgs false
namespace Go.Proofs.Ythnjepehiddogaa
open Go.RowKit Go.MapKept

section
variable {ops : Array Oper} {Q : Exit → Act → World → Prop}
theorem wpAnyH_more {P : Program} {md : Region.Mode} {S S' : World → Prop} (hS : ∀ w, S' w → S w) : ∀ (fuel : Nat) (listed : Array Bool) (a : Act) (w : World), wpAnyH P md ops Q S' fuel listed a w → wpAnyH P md ops Q S fuel listed a w
  | 0, _, _, _, h => h
  | fuel + 1, _, _, _, h => ⟨h.1, fun i hi => wpOp_mono (fun a' w' h' => ⟨hS _ h'.1, wpAnyH_more hS fuel _ a' w' h'.2⟩) (h.2 i hi)⟩
end
theorem wp_name {P : Program} {c : Code} {Q : Exit → Act → World → Prop} {a : Act} {w : World} (h : ∀ W, W = w → Code.wp P c Q a W) : Code.wp P c Q a w := h w rfl
theorem CellsAt.new' (w : World) (n : Nat) (hn : n = w.heap.size) (cs : Array Value) (T : TypeId) : CellsAt (w.alloc (.cells cs T)) n cs T := by
  subst hn
  exact CellsAt.new w cs T
def SetPost (w : World) (S : List Nat) (T' : Tt Int) (fr : Bool) (e : Ending) (w' : World) : Prop := ∃ q' S', e = .returned (.tuple #[q', .bool fr]) ∧ SetAt w S q' T' S' w'
theorem TreeAt.form {w : World} {S : List Nat} {q : Value} {T : Tt Int} (h : TreeAt w S q T) : ∃ A, q = .pointer A := by
  rcases h.ptr with ⟨h, _⟩ | ⟨b, h⟩
  · exact ⟨_, h⟩
  · exact ⟨_, h⟩
theorem NodeAt.k {w : World} {S : List Nat} {b : Nat} {a : Tp} {has : Bool} {v : Int} {l r : Tt Int} {Sl Sr : List Nat} {ql qr : Value} (h : NodeAt w S b a has v l r Sl Sr ql qr) :
    w.cell? ⟨b, 0, none⟩ = some (.int .i64 a.fam) ∧ w.cell? ⟨b, 1, none⟩ = some (.int .u64 a.rd) ∧ w.cell? ⟨b, 2, none⟩ = some (.string a.addr) ∧ w.cell? ⟨b, 3, none⟩ = some (.int .i64 (a.len : Nat)) ∧ w.cell? ⟨b, 4, none⟩ = some (.bool has) ∧ w.cell? ⟨b, 5, none⟩ = some (.int .i64 v) ∧ w.cell? ⟨b, 6, none⟩ = some ql ∧ w.cell? ⟨b, 7, none⟩ = some qr ∧
    w.frozen? ⟨b, 4, none⟩ = false ∧ w.frozen? ⟨b, 5, none⟩ = false ∧ w.frozen? ⟨b, 6, none⟩ = false ∧ w.frozen? ⟨b, 7, none⟩ = false := by
  obtain ⟨h0, h1, h2, h3, h4, h5, h6, h7⟩ := CellsAt.c8 h.c
  exact ⟨h0, h1, h2, h3, h4, h5, h6, h7, h.c.frozen 4, h.c.frozen 5, h.c.frozen 6, h.c.frozen 7⟩
theorem NodeAt.sub {w : World} {S : List Nat} {b : Nat} {a : Tp} {has : Bool} {v : Int} {l r : Tt Int} {Sl Sr : List Nat} {ql qr : Value} (h : NodeAt w S b a has v l r Sl Sr ql qr) : b ∈ S ∧ (∀ x ∈ Sl, x ∈ S) ∧ (∀ x ∈ Sr, x ∈ S) ∧ (∀ x ∈ S, x < w.heap.size) := by
  refine ⟨?_, ?_, ?_, h.tree.lt⟩
  · rw [h.s]; exact List.mem_cons_self ..
  · intro x hx; rw [h.s]; exact List.mem_cons_of_mem _ (List.mem_append_left _ hx)
  · intro x hx; rw [h.s]; exact List.mem_cons_of_mem _ (List.mem_append_right _ hx)
theorem TreeAt.off {w : World} {S : List Nat} {q : Value} {T : Tt Int} (h : TreeAt w S q T) {n : Nat} (hn : w.heap.size ≤ n) : n ∉ S := fun hx => by
  have := h.lt n hx
  omega

set_option maxHeartbeats 1000000 in
theorem set_nil (p : Tp) (v : Int) (w : World) :
    Calls Try.prog 32 #[.pointer none, p.v, .int .i64 v] w (SetPost w [] (.node p true v .nil .nil) true) := by
  unfold Tp.v
  go_enter Try.func32, Try.ntmps32
  go_wp2_with fail
  go_ret2
  exact ⟨_, _, rfl, SetAt.leaf (by go_grown) (CellsAt.new' _ _ (by simp) _ _) (by simp <;> omega)⟩
set_option maxRecDepth 100000 in
set_option maxHeartbeats 4000000 in
theorem set_here (p a : Tp) (hp : p.Ok) (ha : a.Ok) (hf : a.fam = p.fam) (v v0 : Int) (has : Bool) (l r : Tt Int) (b : Nat) (S Sl Sr : List Nat) (ql qr : Value) (w : World) (hn : NodeAt w S b a has v0 l r Sl Sr ql qr) (hk : cmN a p = a.len) (hl : a.len = p.len) :
    Calls Try.prog 32 #[.pointer (some ⟨b, 0, none⟩), p.v, .int .i64 v] w (SetPost w S (.node a true v l r) (!has)) := by
  have HCM := Lib.hid (fun w => common_any a p ha hp hf w)
  rw [hk] at HCM
  have hpl := hp.le
  have hal := ha.le
  have hps := hp.small
  have has_ := ha.small
  have HN := Lib.hid hn
  have hblt := hn.c.lt
  have e2 : ((a.len : Int) == (p.len : Int)) = true := by rw [beq_iff_eq]; omega
  clear hk
  clear hn hp ha hf hl
  unfold Tp.v at HCM ⊢
  go_enter Try.func32, Try.ntmps32
  go_wp2_with fail
  obtain ⟨W0, hW0⟩ : ∃ W, W = w.alloc (.cells #[.int .i64 p.fam, .int .u64 p.rd, .string p.addr, .int .i64 (p.len : Nat)] 30) := ⟨_, rfl⟩
  have HP0 : Hid (CellsAt W0 w.heap.size #[.int .i64 p.fam, .int .u64 p.rd, .string p.addr, .int .i64 (p.len : Nat)] 30) := by rw [hW0]; exact CellsAt.new _ _ _
  have HB0 : Hid (Below w.heap.size w W0) := by
    rw [hW0]
    show Below _ _ _
    exact (Below.refl _ _).alloc (Nat.le_refl _) _
  rw [← hW0]
  clear hW0
  have HN0 : Hid (NodeAt W0 S b a has v0 l r Sl Sr ql qr) := HN.out.below HB0.out
  refine wp_region_held_drew (S := fun w' => Below W0.heap.size W0 w') (by kernel_rfl) (below_drewN (Below.refl _ _) 1) (fun hHeld => ?_)
  refine wpAnyH_take (i := 0) (oi := { dst := some 21, op := Op.move (Operand.tmp 0), type := 68, pos := "trie.go:73", after := #[], guard := none }) (v := ?_) rfl (by kernel_rfl) (by kernel_rfl) (by kernel_rfl) (fun _ _ _ h => h) (Or.inl ⟨by rfl, ?_⟩) hHeld ?_
  rotate_left
  · intro w hSw
    clear hSw
    go_simp
    try with_reducible rfl
  try simp only [Act.put, List.setIfInBounds_toArray, List.set_cons_zero, List.set_cons_succ]
  refine wpAnyH_take (i := 1) (oi := { dst := some 22, op := Op.nilCheck (Operand.tmp 21), type := 0, pos := "trie.go:73", after := #[{ on := 0, ground := Ground.data }], guard := none }) (v := ?_) rfl (by kernel_rfl) (by kernel_rfl) (by kernel_rfl) (fun _ _ _ h => h) (Or.inl ⟨by rfl, ?_⟩) hHeld ?_
  rotate_left
  · intro w hSw
    clear hSw
    go_simp
    try with_reducible rfl
  try simp only [Act.put, List.setIfInBounds_toArray, List.set_cons_zero, List.set_cons_succ]
  refine wpAnyH_take (i := 2) (oi := { dst := some 23, op := Op.fieldAddr 76 (Operand.tmp 22) 0, type := 0, pos := "trie.go:73", after := #[{ on := 1, ground := Ground.data }], guard := none }) (v := ?_) rfl (by kernel_rfl) (by kernel_rfl) (by kernel_rfl) (fun _ _ _ h => h) (Or.inl ⟨by rfl, ?_⟩) hHeld ?_
  rotate_left
  · intro w hSw
    clear hSw
    go_simp
    try with_reducible rfl
  try simp only [Act.put, List.setIfInBounds_toArray, List.set_cons_zero, List.set_cons_succ]
  refine wpAnyH_take (i := 3) (oi := { dst := some 24, op := Op.load 30 (Operand.tmp 23), type := 30, pos := "trie.go:73", after := #[{ on := 2, ground := Ground.data }], guard := none }) (v := ?_) rfl (by kernel_rfl) (by kernel_rfl) (by kernel_rfl) (fun _ _ _ h => h) (Or.inl ⟨by rfl, ?_⟩) hHeld ?_
  rotate_left
  · intro w hSw
    obtain ⟨k0, k1, k2, k3, _⟩ := (HN0.out.below hSw).k
    obtain ⟨p0, p1, p2, p3, _⟩ := c4_at (HP0.out.below hSw HP0.out.lt)
    go_simp
    try with_reducible rfl
  try simp only [Act.put, List.setIfInBounds_toArray, List.set_cons_zero, List.set_cons_succ]
  refine wpAnyH_take (i := 4) (oi := { dst := some 25, op := Op.load 30 (Operand.tmp 4), type := 30, pos := "trie.go:73", after := #[], guard := none }) (v := ?_) rfl (by kernel_rfl) (by kernel_rfl) (by kernel_rfl) (fun _ _ _ h => h) (Or.inl ⟨by rfl, ?_⟩) hHeld ?_
  rotate_left
  · intro w hSw
    obtain ⟨k0, k1, k2, k3, _⟩ := (HN0.out.below hSw).k
    obtain ⟨p0, p1, p2, p3, _⟩ := c4_at (HP0.out.below hSw HP0.out.lt)
    go_simp
    try with_reducible rfl
  try simp only [Act.put, List.setIfInBounds_toArray, List.set_cons_zero, List.set_cons_succ]
  refine wpAnyH_ready (rs := [5]) (by kernel_rfl) (by simp) ?_
  refine AllReadyH.cons (o := { dst := some 26, op := Op.call { callee := Callee.value (Operand.func 43), args := #[Operand.tmp 24, Operand.tmp 25], argTypes := #[30, 30] }, type := 3, pos := "trie.go:73", after := #[{ on := 3, ground := Ground.data }, { on := 4, ground := Ground.data }], guard := none }) rfl (fun K hK => ?_) AllReadyH.nil
  go_simp
  refine (HCM.out _).mono ?_
  rintro e w9 ⟨rfl, hb9⟩
  go_wp2_with fail
  refine hK.out _ _ (hHeld.trans (hb9.mono hHeld.size)) (fun hHeld => ?_)
  clear hK K
  try simp only [Act.put, List.setIfInBounds_toArray, List.set_cons_zero, List.set_cons_succ]
  refine wpAnyH_take (i := 6) (oi := { dst := some 8, op := Op.assign (Operand.tmp 26), type := 3, pos := "trie.go:73", after := #[{ on := 5, ground := Ground.data }, { on := 5, ground := Ground.chain }, { on := 0, ground := Ground.phase }, { on := 1, ground := Ground.phase }, { on := 2, ground := Ground.phase }, { on := 3, ground := Ground.phase }, { on := 4, ground := Ground.phase }, { on := 5, ground := Ground.phase }], guard := none }) (v := ?_) rfl (by kernel_rfl) (by kernel_rfl) (by kernel_rfl) (fun _ _ _ h => h) (Or.inl ⟨by rfl, ?_⟩) hHeld ?_
  rotate_left
  · intro w hSw
    clear hSw
    go_simp
    try with_reducible rfl
  try simp only [Act.put, List.setIfInBounds_toArray, List.set_cons_zero, List.set_cons_succ]
  refine wpAnyH_done (by kernel_rfl) ?_ _
  have HB1 : Hid (Below w.heap.size w w9) := HB0.out.trans (hHeld.mono HB0.out.size)
  have HN1 : Hid (NodeAt w9 S b a has v0 l r Sl Sr ql qr) := HN.out.below HB1.out
  have HP1 : Hid (CellsAt w9 w.heap.size #[.int .i64 p.fam, .int .u64 p.rd, .string p.addr, .int .i64 (p.len : Nat)] 30) := HP0.out.below hHeld HP0.out.lt
  clear hHeld HN0 HP0 HB0 hb9
  obtain ⟨k0, k1, k2, k3, k4, k5, k6, k7, z4, z5, z6, z7⟩ := HN1.out.k
  obtain ⟨p0, p1, p2, p3, _⟩ := c4_at HP1.out
  go_wp2_with fail
  go_ret2
  exact ⟨_, _, rfl, HN.out.val HB1.out true v⟩
set_option maxRecDepth 100000 in
set_option maxHeartbeats 4000000 in
theorem set_left (p a : Tp) (hp : p.Ok) (ha : a.Ok) (hf : a.fam = p.fam) (v v0 : Int) (has : Bool) (l r : Tt Int) (b : Nat) (S Sl Sr : List Nat) (ql qr : Value) (w : World) (hn : NodeAt w S b a has v0 l r Sl Sr ql qr) (hk : cmN a p = a.len) (hl : a.len ≠ p.len) (hbit : p.bit a.len = 0) (hih : ∀ w1, Below w.heap.size w w1 → Calls Try.prog 32 #[ql, p.v, .int .i64 v] w1 (SetPost w1 Sl (l.set 0 p v) (l.fresh p))) :
    Calls Try.prog 32 #[.pointer (some ⟨b, 0, none⟩), p.v, .int .i64 v] w (SetPost w S (.node a has v0 (l.set 0 p v) r) (l.fresh p)) := by
  have HCM := Lib.hid (fun w => common_any a p ha hp hf w)
  rw [hk] at HCM
  have hpl := hp.le
  have hal := ha.le
  have hps := hp.small
  have has_ := ha.small
  have HN := Lib.hid hn
  have hblt := hn.c.lt
  have e2 : ((a.len : Int) == (p.len : Int)) = false := by rw [beq_eq_false_iff_ne]; omega
  have hcv := cmN_cov.1 hk
  have hlt : a.len < p.len := by
    have := hcv.1
    omega
  have HBT := Lib.hid (fun w => pbit_any p.addr a.len w (by omega) (by omega))
  rw [show bitV p.addr a.len = 0 from hbit] at HBT
  have HIH := Lib.hid hih
  have HF := Lib.hid hn.l.form
  have HSB := Lib.hid hn.sub
  have HOFF : Hid (w.heap.size ∉ S) := hn.tree.off (Nat.le_refl _)
  clear hk hbit hih hcv
  clear hn hp ha hf hl
  unfold Tp.v at HCM HIH ⊢
  go_enter Try.func32, Try.ntmps32
  go_wp2_with fail
  obtain ⟨W0, hW0⟩ : ∃ W, W = w.alloc (.cells #[.int .i64 p.fam, .int .u64 p.rd, .string p.addr, .int .i64 (p.len : Nat)] 30) := ⟨_, rfl⟩
  have HP0 : Hid (CellsAt W0 w.heap.size #[.int .i64 p.fam, .int .u64 p.rd, .string p.addr, .int .i64 (p.len : Nat)] 30) := by rw [hW0]; exact CellsAt.new _ _ _
  have HB0 : Hid (Below w.heap.size w W0) := by
    rw [hW0]
    show Below _ _ _
    exact (Below.refl _ _).alloc (Nat.le_refl _) _
  rw [← hW0]
  clear hW0
  have HN0 : Hid (NodeAt W0 S b a has v0 l r Sl Sr ql qr) := HN.out.below HB0.out
  refine wp_region_held_drew (S := fun w' => Below W0.heap.size W0 w') (by kernel_rfl) (below_drewN (Below.refl _ _) 1) (fun hHeld => ?_)
  refine wpAnyH_take (i := 0) (oi := { dst := some 21, op := Op.move (Operand.tmp 0), type := 68, pos := "trie.go:73", after := #[], guard := none }) (v := ?_) rfl (by kernel_rfl) (by kernel_rfl) (by kernel_rfl) (fun _ _ _ h => h) (Or.inl ⟨by rfl, ?_⟩) hHeld ?_
  rotate_left
  · intro w hSw
    clear hSw
    go_simp
    try with_reducible rfl
  try simp only [Act.put, List.setIfInBounds_toArray, List.set_cons_zero, List.set_cons_succ]
  refine wpAnyH_take (i := 1) (oi := { dst := some 22, op := Op.nilCheck (Operand.tmp 21), type := 0, pos := "trie.go:73", after := #[{ on := 0, ground := Ground.data }], guard := none }) (v := ?_) rfl (by kernel_rfl) (by kernel_rfl) (by kernel_rfl) (fun _ _ _ h => h) (Or.inl ⟨by rfl, ?_⟩) hHeld ?_
  rotate_left
  · intro w hSw
    clear hSw
    go_simp
    try with_reducible rfl
  try simp only [Act.put, List.setIfInBounds_toArray, List.set_cons_zero, List.set_cons_succ]
  refine wpAnyH_take (i := 2) (oi := { dst := some 23, op := Op.fieldAddr 76 (Operand.tmp 22) 0, type := 0, pos := "trie.go:73", after := #[{ on := 1, ground := Ground.data }], guard := none }) (v := ?_) rfl (by kernel_rfl) (by kernel_rfl) (by kernel_rfl) (fun _ _ _ h => h) (Or.inl ⟨by rfl, ?_⟩) hHeld ?_
  rotate_left
  · intro w hSw
    clear hSw
    go_simp
    try with_reducible rfl
  try simp only [Act.put, List.setIfInBounds_toArray, List.set_cons_zero, List.set_cons_succ]
  refine wpAnyH_take (i := 3) (oi := { dst := some 24, op := Op.load 30 (Operand.tmp 23), type := 30, pos := "trie.go:73", after := #[{ on := 2, ground := Ground.data }], guard := none }) (v := ?_) rfl (by kernel_rfl) (by kernel_rfl) (by kernel_rfl) (fun _ _ _ h => h) (Or.inl ⟨by rfl, ?_⟩) hHeld ?_
  rotate_left
  · intro w hSw
    obtain ⟨k0, k1, k2, k3, _⟩ := (HN0.out.below hSw).k
    obtain ⟨p0, p1, p2, p3, _⟩ := c4_at (HP0.out.below hSw HP0.out.lt)
    go_simp
    try with_reducible rfl
  try simp only [Act.put, List.setIfInBounds_toArray, List.set_cons_zero, List.set_cons_succ]
  refine wpAnyH_take (i := 4) (oi := { dst := some 25, op := Op.load 30 (Operand.tmp 4), type := 30, pos := "trie.go:73", after := #[], guard := none }) (v := ?_) rfl (by kernel_rfl) (by kernel_rfl) (by kernel_rfl) (fun _ _ _ h => h) (Or.inl ⟨by rfl, ?_⟩) hHeld ?_
  rotate_left
  · intro w hSw
    obtain ⟨k0, k1, k2, k3, _⟩ := (HN0.out.below hSw).k
    obtain ⟨p0, p1, p2, p3, _⟩ := c4_at (HP0.out.below hSw HP0.out.lt)
    go_simp
    try with_reducible rfl
  try simp only [Act.put, List.setIfInBounds_toArray, List.set_cons_zero, List.set_cons_succ]
  refine wpAnyH_ready (rs := [5]) (by kernel_rfl) (by simp) ?_
  refine AllReadyH.cons (o := { dst := some 26, op := Op.call { callee := Callee.value (Operand.func 43), args := #[Operand.tmp 24, Operand.tmp 25], argTypes := #[30, 30] }, type := 3, pos := "trie.go:73", after := #[{ on := 3, ground := Ground.data }, { on := 4, ground := Ground.data }], guard := none }) rfl (fun K hK => ?_) AllReadyH.nil
  go_simp
  refine (HCM.out _).mono ?_
  rintro e w9 ⟨rfl, hb9⟩
  go_wp2_with fail
  refine hK.out _ _ (hHeld.trans (hb9.mono hHeld.size)) (fun hHeld => ?_)
  clear hK K
  try simp only [Act.put, List.setIfInBounds_toArray, List.set_cons_zero, List.set_cons_succ]
  refine wpAnyH_take (i := 6) (oi := { dst := some 8, op := Op.assign (Operand.tmp 26), type := 3, pos := "trie.go:73", after := #[{ on := 5, ground := Ground.data }, { on := 5, ground := Ground.chain }, { on := 0, ground := Ground.phase }, { on := 1, ground := Ground.phase }, { on := 2, ground := Ground.phase }, { on := 3, ground := Ground.phase }, { on := 4, ground := Ground.phase }, { on := 5, ground := Ground.phase }], guard := none }) (v := ?_) rfl (by kernel_rfl) (by kernel_rfl) (by kernel_rfl) (fun _ _ _ h => h) (Or.inl ⟨by rfl, ?_⟩) hHeld ?_
  rotate_left
  · intro w hSw
    clear hSw
    go_simp
    try with_reducible rfl
  try simp only [Act.put, List.setIfInBounds_toArray, List.set_cons_zero, List.set_cons_succ]
  refine wpAnyH_done (by kernel_rfl) ?_ _
  have HB1 : Hid (Below w.heap.size w w9) := HB0.out.trans (hHeld.mono HB0.out.size)
  have HN1 : Hid (NodeAt w9 S b a has v0 l r Sl Sr ql qr) := HN.out.below HB1.out
  have HP1 : Hid (CellsAt w9 w.heap.size #[.int .i64 p.fam, .int .u64 p.rd, .string p.addr, .int .i64 (p.len : Nat)] 30) := HP0.out.below hHeld HP0.out.lt
  clear hHeld HN0 HP0 HB0 hb9
  obtain ⟨k0, k1, k2, k3, k4, k5, k6, k7, z4, z5, z6, z7⟩ := HN1.out.k
  obtain ⟨p0, p1, p2, p3, _⟩ := c4_at HP1.out
  go_wp2_with fail
  refine (HBT.out _).mono ?_
  rintro e wb ⟨rfl, hwb⟩
  have hwb := hwb.symm
  subst hwb
  go_wp2_with fail
  refine wp_region_held_drew (S := fun w' => GrownX (fun x => x ∈ S) w9 w') (by kernel_rfl) (GrownX.of_below (below_drewN (Below.refl _ _) 1)) (fun hHeld => ?_)
  refine wpAnyH_take (i := 0) (oi := { dst := some 68, op := Op.move (Operand.tmp 0), type := 68, pos := "trie.go:82", after := #[], guard := none }) (v := ?_) rfl (by kernel_rfl) (by kernel_rfl) (by kernel_rfl) (fun _ _ _ h => h) (Or.inl ⟨by rfl, ?_⟩) hHeld ?_
  rotate_left
  · intro w hSw
    clear hSw
    go_simp
    try with_reducible rfl
  try simp only [Act.put, List.setIfInBounds_toArray, List.set_cons_zero, List.set_cons_succ]
  refine wpAnyH_take (i := 1) (oi := { dst := some 69, op := Op.move (Operand.tmp 10), type := 3, pos := "trie.go:82", after := #[], guard := none }) (v := ?_) rfl (by kernel_rfl) (by kernel_rfl) (by kernel_rfl) (fun _ _ _ h => h) (Or.inl ⟨by rfl, ?_⟩) hHeld ?_
  rotate_left
  · intro w hSw
    clear hSw
    go_simp
    try with_reducible rfl
  try simp only [Act.put, List.setIfInBounds_toArray, List.set_cons_zero, List.set_cons_succ]
  refine wpAnyH_take (i := 2) (oi := { dst := some 70, op := Op.move (Operand.tmp 0), type := 68, pos := "trie.go:82", after := #[], guard := none }) (v := ?_) rfl (by kernel_rfl) (by kernel_rfl) (by kernel_rfl) (fun _ _ _ h => h) (Or.inl ⟨by rfl, ?_⟩) hHeld ?_
  rotate_left
  · intro w hSw
    clear hSw
    go_simp
    try with_reducible rfl
  try simp only [Act.put, List.setIfInBounds_toArray, List.set_cons_zero, List.set_cons_succ]
  refine wpAnyH_take (i := 3) (oi := { dst := some 71, op := Op.move (Operand.tmp 10), type := 3, pos := "trie.go:82", after := #[], guard := none }) (v := ?_) rfl (by kernel_rfl) (by kernel_rfl) (by kernel_rfl) (fun _ _ _ h => h) (Or.inl ⟨by rfl, ?_⟩) hHeld ?_
  rotate_left
  · intro w hSw
    clear hSw
    go_simp
    try with_reducible rfl
  try simp only [Act.put, List.setIfInBounds_toArray, List.set_cons_zero, List.set_cons_succ]
  refine wpAnyH_take (i := 4) (oi := { dst := some 72, op := Op.nilCheck (Operand.tmp 70), type := 0, pos := "trie.go:82", after := #[{ on := 2, ground := Ground.data }], guard := none }) (v := ?_) rfl (by kernel_rfl) (by kernel_rfl) (by kernel_rfl) (fun _ _ _ h => h) (Or.inl ⟨by rfl, ?_⟩) hHeld ?_
  rotate_left
  · intro w hSw
    clear hSw
    go_simp
    try with_reducible rfl
  try simp only [Act.put, List.setIfInBounds_toArray, List.set_cons_zero, List.set_cons_succ]
  refine wpAnyH_take (i := 5) (oi := { dst := some 73, op := Op.fieldAddr 76 (Operand.tmp 72) 3, type := 0, pos := "trie.go:82", after := #[{ on := 4, ground := Ground.data }], guard := none }) (v := ?_) rfl (by kernel_rfl) (by kernel_rfl) (by kernel_rfl) (fun _ _ _ h => h) (Or.inl ⟨by rfl, ?_⟩) hHeld ?_
  rotate_left
  · intro w hSw
    clear hSw
    go_simp
    try with_reducible rfl
  try simp only [Act.put, List.setIfInBounds_toArray, List.set_cons_zero, List.set_cons_succ]
  refine wpAnyH_take (i := 6) (oi := { dst := some 74, op := Op.indexAddr 74 (Operand.tmp 73) (Operand.tmp 71), type := 0, pos := "trie.go:82", after := #[{ on := 5, ground := Ground.data }, { on := 3, ground := Ground.data }], guard := none }) (v := ?_) rfl (by kernel_rfl) (by kernel_rfl) (by kernel_rfl) (fun _ _ _ h => h) (Or.inl ⟨by rfl, ?_⟩) hHeld ?_
  rotate_left
  · intro w hSw
    clear hSw
    go_simp
    try with_reducible rfl
  try simp only [Act.put, List.setIfInBounds_toArray, List.set_cons_zero, List.set_cons_succ]
  refine wpAnyH_take (i := 8) (oi := { dst := some 76, op := Op.load 30 (Operand.tmp 4), type := 30, pos := "trie.go:82", after := #[], guard := none }) (v := ?_) rfl (by kernel_rfl) (by kernel_rfl) (by kernel_rfl) (fun _ _ _ h => h) (Or.inl ⟨by rfl, ?_⟩) hHeld ?_
  rotate_left
  · intro w hSw
    obtain ⟨p0, p1, p2, p3, _⟩ := c4_at (HP1.out.grownX hSw HOFF.out)
    go_simp
    try with_reducible rfl
  try simp only [Act.put, List.setIfInBounds_toArray, List.set_cons_zero, List.set_cons_succ]
  refine wpAnyH_take (i := 9) (oi := { dst := some 77, op := Op.move (Operand.tmp 2), type := 3, pos := "trie.go:82", after := #[], guard := none }) (v := ?_) rfl (by kernel_rfl) (by kernel_rfl) (by kernel_rfl) (fun _ _ _ h => h) (Or.inl ⟨by rfl, ?_⟩) hHeld ?_
  rotate_left
  · intro w hSw
    clear hSw
    go_simp
    try with_reducible rfl
  try simp only [Act.put, List.setIfInBounds_toArray, List.set_cons_zero, List.set_cons_succ]
  refine wpAnyH_take (i := 14) (oi := { dst := some 81, op := Op.nilCheck (Operand.tmp 68), type := 0, pos := "trie.go:82", after := #[{ on := 0, ground := Ground.data }], guard := none }) (v := ?_) rfl (by kernel_rfl) (by kernel_rfl) (by kernel_rfl) (fun _ _ _ h => h) (Or.inl ⟨by rfl, ?_⟩) hHeld ?_
  rotate_left
  · intro w hSw
    clear hSw
    go_simp
    try with_reducible rfl
  try simp only [Act.put, List.setIfInBounds_toArray, List.set_cons_zero, List.set_cons_succ]
  refine wpAnyH_take (i := 15) (oi := { dst := some 82, op := Op.fieldAddr 76 (Operand.tmp 81) 3, type := 0, pos := "trie.go:82", after := #[{ on := 14, ground := Ground.data }], guard := none }) (v := ?_) rfl (by kernel_rfl) (by kernel_rfl) (by kernel_rfl) (fun _ _ _ h => h) (Or.inl ⟨by rfl, ?_⟩) hHeld ?_
  rotate_left
  · intro w hSw
    clear hSw
    go_simp
    try with_reducible rfl
  try simp only [Act.put, List.setIfInBounds_toArray, List.set_cons_zero, List.set_cons_succ]
  refine wpAnyH_ready (rs := [7]) (by kernel_rfl) (by simp) ?_
  refine AllReadyH.cons (o := { dst := some 75, op := Op.load 68 (Operand.tmp 74), type := 68, pos := "trie.go:82", after := #[{ on := 6, ground := Ground.data }], guard := none }) rfl (fun K hK => ?_) AllReadyH.nil
  go_simp
  skip
  refine hK.out _ _ (hHeld) (fun hHeld => ?_)
  clear hK K
  try simp only [Act.put, List.setIfInBounds_toArray, List.set_cons_zero, List.set_cons_succ]
  refine wpAnyH_ready (rs := [10]) (by kernel_rfl) (by simp) ?_
  refine AllReadyH.cons (o := { dst := some 78, op := Op.call { callee := Callee.value (Operand.func 32), args := #[Operand.tmp 75, Operand.tmp 76, Operand.tmp 77], argTypes := #[68, 30, 3] }, type := 71, pos := "trie.go:82", after := #[{ on := 7, ground := Ground.data }, { on := 8, ground := Ground.data }, { on := 9, ground := Ground.data }], guard := none }) rfl (fun K hK => ?_) AllReadyH.nil
  go_simp
  refine (HIH.out _ (HB1.out.trans ((below_drewN (Below.refl _ _) 1).mono HB1.out.size))).mono ?_
  rintro e w2 ⟨q2, S2, rfl, hs2⟩
  obtain ⟨A2, rfl⟩ := hs2.t.form
  have HL2 := HN.out.left (hs2.from_ (HB1.out.trans ((below_drewN (Below.refl _ _) 1).mono HB1.out.size)))
  have j2 : w2.cell? ⟨b, 6, none⟩ = some ql := (CellsAt.c HL2.1 6).trans rfl
  have y2 := HL2.1.frozen 6
  have HS2 := Lib.hid HL2.2
  have HG2 := Lib.hid (hs2.g.mono HSB.out.2.1)
  clear HL2 hs2
  go_wp2_with fail
  refine hK.out _ _ (hHeld.trans HG2.out) (fun hHeld => ?_)
  clear hK K
  try simp only [Act.put, List.setIfInBounds_toArray, List.set_cons_zero, List.set_cons_succ]
  refine wpAnyH_take (i := 11) (oi := { dst := some 67, op := Op.move (Operand.tmp 78), type := 71, pos := "trie.go:82", after := #[{ on := 10, ground := Ground.data }], guard := none }) (v := ?_) rfl (by kernel_rfl) (by kernel_rfl) (by kernel_rfl) (fun _ _ _ h => h) (Or.inl ⟨by rfl, ?_⟩) hHeld ?_
  rotate_left
  · intro w hSw
    clear hSw
    go_simp
    try with_reducible rfl
  try simp only [Act.put, List.setIfInBounds_toArray, List.set_cons_zero, List.set_cons_succ]
  refine wpAnyH_take (i := 12) (oi := { dst := some 79, op := Op.extract (Operand.tmp 67) 0, type := 68, pos := "trie.go:82", after := #[{ on := 11, ground := Ground.data }], guard := none }) (v := ?_) rfl (by kernel_rfl) (by kernel_rfl) (by kernel_rfl) (fun _ _ _ h => h) (Or.inl ⟨by rfl, ?_⟩) hHeld ?_
  rotate_left
  · intro w hSw
    clear hSw
    go_simp
    try with_reducible rfl
  try simp only [Act.put, List.setIfInBounds_toArray, List.set_cons_zero, List.set_cons_succ]
  refine wpAnyH_take (i := 13) (oi := { dst := some 80, op := Op.extract (Operand.tmp 67) 1, type := 4, pos := "trie.go:82", after := #[{ on := 11, ground := Ground.data }, { on := 17, ground := Ground.gcOnly Departure.lateStores }], guard := none }) (v := ?_) rfl (by kernel_rfl) (by kernel_rfl) (by kernel_rfl) (fun _ _ _ h => h) (Or.inl ⟨by rfl, ?_⟩) hHeld ?_
  rotate_left
  · intro w hSw
    clear hSw
    go_simp
    try with_reducible rfl
  try simp only [Act.put, List.setIfInBounds_toArray, List.set_cons_zero, List.set_cons_succ]
  refine wpAnyH_take (i := 16) (oi := { dst := some 83, op := Op.indexAddr 74 (Operand.tmp 82) (Operand.tmp 69), type := 0, pos := "trie.go:82", after := #[{ on := 15, ground := Ground.data }, { on := 1, ground := Ground.data }, { on := 0, ground := Ground.phase }, { on := 1, ground := Ground.phase }, { on := 2, ground := Ground.phase }, { on := 3, ground := Ground.phase }, { on := 4, ground := Ground.phase }, { on := 5, ground := Ground.phase }, { on := 6, ground := Ground.phase }, { on := 7, ground := Ground.phase }, { on := 8, ground := Ground.phase }, { on := 9, ground := Ground.phase }, { on := 10, ground := Ground.phase }, { on := 11, ground := Ground.phase }, { on := 12, ground := Ground.phase }, { on := 13, ground := Ground.textOnly Departure.lateStores }], guard := none }) (v := ?_) rfl (by kernel_rfl) (by kernel_rfl) (by kernel_rfl) (fun _ _ _ h => h) (Or.inl ⟨by rfl, ?_⟩) hHeld ?_
  rotate_left
  · intro w hSw
    clear hSw
    go_simp
    try with_reducible rfl
  try simp only [Act.put, List.setIfInBounds_toArray, List.set_cons_zero, List.set_cons_succ]
  refine wpAnyH_ready (rs := [17]) (by kernel_rfl) (by simp) ?_
  refine AllReadyH.cons (o := { dst := none, op := Op.store 68 (Operand.tmp 83) (Operand.tmp 79), type := 0, pos := "trie.go:82", after := #[{ on := 16, ground := Ground.data }, { on := 12, ground := Ground.data }, { on := 10, ground := Ground.chain }, { on := 0, ground := Ground.phase }, { on := 1, ground := Ground.phase }, { on := 2, ground := Ground.phase }, { on := 3, ground := Ground.phase }, { on := 4, ground := Ground.phase }, { on := 5, ground := Ground.phase }, { on := 6, ground := Ground.phase }, { on := 7, ground := Ground.phase }, { on := 8, ground := Ground.phase }, { on := 9, ground := Ground.phase }, { on := 10, ground := Ground.phase }, { on := 11, ground := Ground.phase }, { on := 12, ground := Ground.phase }, { on := 13, ground := Ground.textOnly Departure.lateStores }], guard := none }) rfl (fun K hK => ?_) AllReadyH.nil
  go_simp
  skip
  refine hK.out _ _ (hHeld.trans (GrownX.of_row (setCell_row _ _ _ _) HSB.out.1)) (fun hHeld => ?_)
  clear hK K
  try simp only [Act.put, List.setIfInBounds_toArray, List.set_cons_zero, List.set_cons_succ]
  refine wpAnyH_take (i := 18) (oi := { dst := some 11, op := Op.assign (Operand.tmp 80), type := 4, pos := "trie.go:82", after := #[{ on := 13, ground := Ground.data }, { on := 17, ground := Ground.chain }, { on := 0, ground := Ground.phase }, { on := 1, ground := Ground.phase }, { on := 2, ground := Ground.phase }, { on := 3, ground := Ground.phase }, { on := 4, ground := Ground.phase }, { on := 5, ground := Ground.phase }, { on := 6, ground := Ground.phase }, { on := 7, ground := Ground.phase }, { on := 8, ground := Ground.phase }, { on := 9, ground := Ground.phase }, { on := 10, ground := Ground.phase }, { on := 11, ground := Ground.phase }, { on := 12, ground := Ground.phase }, { on := 13, ground := Ground.phase }, { on := 14, ground := Ground.phase }, { on := 15, ground := Ground.phase }, { on := 16, ground := Ground.phase }, { on := 17, ground := Ground.phase }], guard := none }) (v := ?_) rfl (by kernel_rfl) (by kernel_rfl) (by kernel_rfl) (fun _ _ _ h => h) (Or.inl ⟨by rfl, ?_⟩) hHeld ?_
  rotate_left
  · intro w hSw
    clear hSw
    go_simp
    try with_reducible rfl
  try simp only [Act.put, List.setIfInBounds_toArray, List.set_cons_zero, List.set_cons_succ]
  refine wpAnyH_done (by kernel_rfl) ?_ _
  go_wp2_with fail
  go_ret2
  exact ⟨_, _, rfl, HS2.out⟩
set_option maxRecDepth 100000 in
set_option maxHeartbeats 4000000 in
theorem set_right (p a : Tp) (hp : p.Ok) (ha : a.Ok) (hf : a.fam = p.fam) (v v0 : Int) (has : Bool) (l r : Tt Int) (b : Nat) (S Sl Sr : List Nat) (ql qr : Value) (w : World) (hn : NodeAt w S b a has v0 l r Sl Sr ql qr) (hk : cmN a p = a.len) (hl : a.len ≠ p.len) (hbit : p.bit a.len = 1) (hih : ∀ w1, Below w.heap.size w w1 → Calls Try.prog 32 #[qr, p.v, .int .i64 v] w1 (SetPost w1 Sr (r.set 0 p v) (r.fresh p))) :
    Calls Try.prog 32 #[.pointer (some ⟨b, 0, none⟩), p.v, .int .i64 v] w (SetPost w S (.node a has v0 l (r.set 0 p v)) (r.fresh p)) := by
  have HCM := Lib.hid (fun w => common_any a p ha hp hf w)
  rw [hk] at HCM
  have hpl := hp.le
  have hal := ha.le
  have hps := hp.small
  have has_ := ha.small
  have HN := Lib.hid hn
  have hblt := hn.c.lt
  have e2 : ((a.len : Int) == (p.len : Int)) = false := by rw [beq_eq_false_iff_ne]; omega
  have hcv := cmN_cov.1 hk
  have hlt : a.len < p.len := by
    have := hcv.1
    omega
  have HBT := Lib.hid (fun w => pbit_any p.addr a.len w (by omega) (by omega))
  rw [show bitV p.addr a.len = 1 from hbit] at HBT
  have HIH := Lib.hid hih
  have HF := Lib.hid hn.r.form
  have HSB := Lib.hid hn.sub
  have HOFF : Hid (w.heap.size ∉ S) := hn.tree.off (Nat.le_refl _)
  clear hk hbit hih hcv
  clear hn hp ha hf hl
  unfold Tp.v at HCM HIH ⊢
  go_enter Try.func32, Try.ntmps32
  go_wp2_with fail
  obtain ⟨W0, hW0⟩ : ∃ W, W = w.alloc (.cells #[.int .i64 p.fam, .int .u64 p.rd, .string p.addr, .int .i64 (p.len : Nat)] 30) := ⟨_, rfl⟩
  have HP0 : Hid (CellsAt W0 w.heap.size #[.int .i64 p.fam, .int .u64 p.rd, .string p.addr, .int .i64 (p.len : Nat)] 30) := by rw [hW0]; exact CellsAt.new _ _ _
  have HB0 : Hid (Below w.heap.size w W0) := by
    rw [hW0]
    show Below _ _ _
    exact (Below.refl _ _).alloc (Nat.le_refl _) _
  rw [← hW0]
  clear hW0
  have HN0 : Hid (NodeAt W0 S b a has v0 l r Sl Sr ql qr) := HN.out.below HB0.out
  refine wp_region_held_drew (S := fun w' => Below W0.heap.size W0 w') (by kernel_rfl) (below_drewN (Below.refl _ _) 1) (fun hHeld => ?_)
  refine wpAnyH_take (i := 0) (oi := { dst := some 21, op := Op.move (Operand.tmp 0), type := 68, pos := "trie.go:73", after := #[], guard := none }) (v := ?_) rfl (by kernel_rfl) (by kernel_rfl) (by kernel_rfl) (fun _ _ _ h => h) (Or.inl ⟨by rfl, ?_⟩) hHeld ?_
  rotate_left
  · intro w hSw
    clear hSw
    go_simp
    try with_reducible rfl
  try simp only [Act.put, List.setIfInBounds_toArray, List.set_cons_zero, List.set_cons_succ]
  refine wpAnyH_take (i := 1) (oi := { dst := some 22, op := Op.nilCheck (Operand.tmp 21), type := 0, pos := "trie.go:73", after := #[{ on := 0, ground := Ground.data }], guard := none }) (v := ?_) rfl (by kernel_rfl) (by kernel_rfl) (by kernel_rfl) (fun _ _ _ h => h) (Or.inl ⟨by rfl, ?_⟩) hHeld ?_
  rotate_left
  · intro w hSw
    clear hSw
    go_simp
    try with_reducible rfl
  try simp only [Act.put, List.setIfInBounds_toArray, List.set_cons_zero, List.set_cons_succ]
  refine wpAnyH_take (i := 2) (oi := { dst := some 23, op := Op.fieldAddr 76 (Operand.tmp 22) 0, type := 0, pos := "trie.go:73", after := #[{ on := 1, ground := Ground.data }], guard := none }) (v := ?_) rfl (by kernel_rfl) (by kernel_rfl) (by kernel_rfl) (fun _ _ _ h => h) (Or.inl ⟨by rfl, ?_⟩) hHeld ?_
  rotate_left
  · intro w hSw
    clear hSw
    go_simp
    try with_reducible rfl
  try simp only [Act.put, List.setIfInBounds_toArray, List.set_cons_zero, List.set_cons_succ]
  refine wpAnyH_take (i := 3) (oi := { dst := some 24, op := Op.load 30 (Operand.tmp 23), type := 30, pos := "trie.go:73", after := #[{ on := 2, ground := Ground.data }], guard := none }) (v := ?_) rfl (by kernel_rfl) (by kernel_rfl) (by kernel_rfl) (fun _ _ _ h => h) (Or.inl ⟨by rfl, ?_⟩) hHeld ?_
  rotate_left
  · intro w hSw
    obtain ⟨k0, k1, k2, k3, _⟩ := (HN0.out.below hSw).k
    obtain ⟨p0, p1, p2, p3, _⟩ := c4_at (HP0.out.below hSw HP0.out.lt)
    go_simp
    try with_reducible rfl
  try simp only [Act.put, List.setIfInBounds_toArray, List.set_cons_zero, List.set_cons_succ]
  refine wpAnyH_take (i := 4) (oi := { dst := some 25, op := Op.load 30 (Operand.tmp 4), type := 30, pos := "trie.go:73", after := #[], guard := none }) (v := ?_) rfl (by kernel_rfl) (by kernel_rfl) (by kernel_rfl) (fun _ _ _ h => h) (Or.inl ⟨by rfl, ?_⟩) hHeld ?_
  rotate_left
  · intro w hSw
    obtain ⟨k0, k1, k2, k3, _⟩ := (HN0.out.below hSw).k
    obtain ⟨p0, p1, p2, p3, _⟩ := c4_at (HP0.out.below hSw HP0.out.lt)
    go_simp
    try with_reducible rfl
  try simp only [Act.put, List.setIfInBounds_toArray, List.set_cons_zero, List.set_cons_succ]
  refine wpAnyH_ready (rs := [5]) (by kernel_rfl) (by simp) ?_
  refine AllReadyH.cons (o := { dst := some 26, op := Op.call { callee := Callee.value (Operand.func 43), args := #[Operand.tmp 24, Operand.tmp 25], argTypes := #[30, 30] }, type := 3, pos := "trie.go:73", after := #[{ on := 3, ground := Ground.data }, { on := 4, ground := Ground.data }], guard := none }) rfl (fun K hK => ?_) AllReadyH.nil
  go_simp
  refine (HCM.out _).mono ?_
  rintro e w9 ⟨rfl, hb9⟩
  go_wp2_with fail
  refine hK.out _ _ (hHeld.trans (hb9.mono hHeld.size)) (fun hHeld => ?_)
  clear hK K
  try simp only [Act.put, List.setIfInBounds_toArray, List.set_cons_zero, List.set_cons_succ]
  refine wpAnyH_take (i := 6) (oi := { dst := some 8, op := Op.assign (Operand.tmp 26), type := 3, pos := "trie.go:73", after := #[{ on := 5, ground := Ground.data }, { on := 5, ground := Ground.chain }, { on := 0, ground := Ground.phase }, { on := 1, ground := Ground.phase }, { on := 2, ground := Ground.phase }, { on := 3, ground := Ground.phase }, { on := 4, ground := Ground.phase }, { on := 5, ground := Ground.phase }], guard := none }) (v := ?_) rfl (by kernel_rfl) (by kernel_rfl) (by kernel_rfl) (fun _ _ _ h => h) (Or.inl ⟨by rfl, ?_⟩) hHeld ?_
  rotate_left
  · intro w hSw
    clear hSw
    go_simp
    try with_reducible rfl
  try simp only [Act.put, List.setIfInBounds_toArray, List.set_cons_zero, List.set_cons_succ]
  refine wpAnyH_done (by kernel_rfl) ?_ _
  have HB1 : Hid (Below w.heap.size w w9) := HB0.out.trans (hHeld.mono HB0.out.size)
  have HN1 : Hid (NodeAt w9 S b a has v0 l r Sl Sr ql qr) := HN.out.below HB1.out
  have HP1 : Hid (CellsAt w9 w.heap.size #[.int .i64 p.fam, .int .u64 p.rd, .string p.addr, .int .i64 (p.len : Nat)] 30) := HP0.out.below hHeld HP0.out.lt
  clear hHeld HN0 HP0 HB0 hb9
  obtain ⟨k0, k1, k2, k3, k4, k5, k6, k7, z4, z5, z6, z7⟩ := HN1.out.k
  obtain ⟨p0, p1, p2, p3, _⟩ := c4_at HP1.out
  go_wp2_with fail
  refine (HBT.out _).mono ?_
  rintro e wb ⟨rfl, hwb⟩
  have hwb := hwb.symm
  subst hwb
  go_wp2_with fail
  refine wp_region_held_drew (S := fun w' => GrownX (fun x => x ∈ S) w9 w') (by kernel_rfl) (GrownX.of_below (below_drewN (Below.refl _ _) 1)) (fun hHeld => ?_)
  refine wpAnyH_take (i := 0) (oi := { dst := some 68, op := Op.move (Operand.tmp 0), type := 68, pos := "trie.go:82", after := #[], guard := none }) (v := ?_) rfl (by kernel_rfl) (by kernel_rfl) (by kernel_rfl) (fun _ _ _ h => h) (Or.inl ⟨by rfl, ?_⟩) hHeld ?_
  rotate_left
  · intro w hSw
    clear hSw
    go_simp
    try with_reducible rfl
  try simp only [Act.put, List.setIfInBounds_toArray, List.set_cons_zero, List.set_cons_succ]
  refine wpAnyH_take (i := 1) (oi := { dst := some 69, op := Op.move (Operand.tmp 10), type := 3, pos := "trie.go:82", after := #[], guard := none }) (v := ?_) rfl (by kernel_rfl) (by kernel_rfl) (by kernel_rfl) (fun _ _ _ h => h) (Or.inl ⟨by rfl, ?_⟩) hHeld ?_
  rotate_left
  · intro w hSw
    clear hSw
    go_simp
    try with_reducible rfl
  try simp only [Act.put, List.setIfInBounds_toArray, List.set_cons_zero, List.set_cons_succ]
  refine wpAnyH_take (i := 2) (oi := { dst := some 70, op := Op.move (Operand.tmp 0), type := 68, pos := "trie.go:82", after := #[], guard := none }) (v := ?_) rfl (by kernel_rfl) (by kernel_rfl) (by kernel_rfl) (fun _ _ _ h => h) (Or.inl ⟨by rfl, ?_⟩) hHeld ?_
  rotate_left
  · intro w hSw
    clear hSw
    go_simp
    try with_reducible rfl
  try simp only [Act.put, List.setIfInBounds_toArray, List.set_cons_zero, List.set_cons_succ]
  refine wpAnyH_take (i := 3) (oi := { dst := some 71, op := Op.move (Operand.tmp 10), type := 3, pos := "trie.go:82", after := #[], guard := none }) (v := ?_) rfl (by kernel_rfl) (by kernel_rfl) (by kernel_rfl) (fun _ _ _ h => h) (Or.inl ⟨by rfl, ?_⟩) hHeld ?_
  rotate_left
  · intro w hSw
    clear hSw
    go_simp
    try with_reducible rfl
  try simp only [Act.put, List.setIfInBounds_toArray, List.set_cons_zero, List.set_cons_succ]
  refine wpAnyH_take (i := 4) (oi := { dst := some 72, op := Op.nilCheck (Operand.tmp 70), type := 0, pos := "trie.go:82", after := #[{ on := 2, ground := Ground.data }], guard := none }) (v := ?_) rfl (by kernel_rfl) (by kernel_rfl) (by kernel_rfl) (fun _ _ _ h => h) (Or.inl ⟨by rfl, ?_⟩) hHeld ?_
  rotate_left
  · intro w hSw
    clear hSw
    go_simp
    try with_reducible rfl
  try simp only [Act.put, List.setIfInBounds_toArray, List.set_cons_zero, List.set_cons_succ]
  refine wpAnyH_take (i := 5) (oi := { dst := some 73, op := Op.fieldAddr 76 (Operand.tmp 72) 3, type := 0, pos := "trie.go:82", after := #[{ on := 4, ground := Ground.data }], guard := none }) (v := ?_) rfl (by kernel_rfl) (by kernel_rfl) (by kernel_rfl) (fun _ _ _ h => h) (Or.inl ⟨by rfl, ?_⟩) hHeld ?_
  rotate_left
  · intro w hSw
    clear hSw
    go_simp
    try with_reducible rfl
  try simp only [Act.put, List.setIfInBounds_toArray, List.set_cons_zero, List.set_cons_succ]
  refine wpAnyH_take (i := 6) (oi := { dst := some 74, op := Op.indexAddr 74 (Operand.tmp 73) (Operand.tmp 71), type := 0, pos := "trie.go:82", after := #[{ on := 5, ground := Ground.data }, { on := 3, ground := Ground.data }], guard := none }) (v := ?_) rfl (by kernel_rfl) (by kernel_rfl) (by kernel_rfl) (fun _ _ _ h => h) (Or.inl ⟨by rfl, ?_⟩) hHeld ?_
  rotate_left
  · intro w hSw
    clear hSw
    go_simp
    try with_reducible rfl
  try simp only [Act.put, List.setIfInBounds_toArray, List.set_cons_zero, List.set_cons_succ]
  refine wpAnyH_take (i := 8) (oi := { dst := some 76, op := Op.load 30 (Operand.tmp 4), type := 30, pos := "trie.go:82", after := #[], guard := none }) (v := ?_) rfl (by kernel_rfl) (by kernel_rfl) (by kernel_rfl) (fun _ _ _ h => h) (Or.inl ⟨by rfl, ?_⟩) hHeld ?_
  rotate_left
  · intro w hSw
    obtain ⟨p0, p1, p2, p3, _⟩ := c4_at (HP1.out.grownX hSw HOFF.out)
    go_simp
    try with_reducible rfl
  try simp only [Act.put, List.setIfInBounds_toArray, List.set_cons_zero, List.set_cons_succ]
  refine wpAnyH_take (i := 9) (oi := { dst := some 77, op := Op.move (Operand.tmp 2), type := 3, pos := "trie.go:82", after := #[], guard := none }) (v := ?_) rfl (by kernel_rfl) (by kernel_rfl) (by kernel_rfl) (fun _ _ _ h => h) (Or.inl ⟨by rfl, ?_⟩) hHeld ?_
  rotate_left
  · intro w hSw
    clear hSw
    go_simp
    try with_reducible rfl
  try simp only [Act.put, List.setIfInBounds_toArray, List.set_cons_zero, List.set_cons_succ]
  refine wpAnyH_take (i := 14) (oi := { dst := some 81, op := Op.nilCheck (Operand.tmp 68), type := 0, pos := "trie.go:82", after := #[{ on := 0, ground := Ground.data }], guard := none }) (v := ?_) rfl (by kernel_rfl) (by kernel_rfl) (by kernel_rfl) (fun _ _ _ h => h) (Or.inl ⟨by rfl, ?_⟩) hHeld ?_
  rotate_left
  · intro w hSw
    clear hSw
    go_simp
    try with_reducible rfl
  try simp only [Act.put, List.setIfInBounds_toArray, List.set_cons_zero, List.set_cons_succ]
  refine wpAnyH_take (i := 15) (oi := { dst := some 82, op := Op.fieldAddr 76 (Operand.tmp 81) 3, type := 0, pos := "trie.go:82", after := #[{ on := 14, ground := Ground.data }], guard := none }) (v := ?_) rfl (by kernel_rfl) (by kernel_rfl) (by kernel_rfl) (fun _ _ _ h => h) (Or.inl ⟨by rfl, ?_⟩) hHeld ?_
  rotate_left
  · intro w hSw
    clear hSw
    go_simp
    try with_reducible rfl
  try simp only [Act.put, List.setIfInBounds_toArray, List.set_cons_zero, List.set_cons_succ]
  refine wpAnyH_ready (rs := [7]) (by kernel_rfl) (by simp) ?_
  refine AllReadyH.cons (o := { dst := some 75, op := Op.load 68 (Operand.tmp 74), type := 68, pos := "trie.go:82", after := #[{ on := 6, ground := Ground.data }], guard := none }) rfl (fun K hK => ?_) AllReadyH.nil
  go_simp
  skip
  refine hK.out _ _ (hHeld) (fun hHeld => ?_)
  clear hK K
  try simp only [Act.put, List.setIfInBounds_toArray, List.set_cons_zero, List.set_cons_succ]
  refine wpAnyH_ready (rs := [10]) (by kernel_rfl) (by simp) ?_
  refine AllReadyH.cons (o := { dst := some 78, op := Op.call { callee := Callee.value (Operand.func 32), args := #[Operand.tmp 75, Operand.tmp 76, Operand.tmp 77], argTypes := #[68, 30, 3] }, type := 71, pos := "trie.go:82", after := #[{ on := 7, ground := Ground.data }, { on := 8, ground := Ground.data }, { on := 9, ground := Ground.data }], guard := none }) rfl (fun K hK => ?_) AllReadyH.nil
  go_simp
  refine (HIH.out _ (HB1.out.trans ((below_drewN (Below.refl _ _) 1).mono HB1.out.size))).mono ?_
  rintro e w2 ⟨q2, S2, rfl, hs2⟩
  obtain ⟨A2, rfl⟩ := hs2.t.form
  have HL2 := HN.out.right (hs2.from_ (HB1.out.trans ((below_drewN (Below.refl _ _) 1).mono HB1.out.size)))
  have j2 : w2.cell? ⟨b, 7, none⟩ = some qr := (CellsAt.c HL2.1 7).trans rfl
  have y2 := HL2.1.frozen 7
  have HS2 := Lib.hid HL2.2
  have HG2 := Lib.hid (hs2.g.mono HSB.out.2.2.1)
  clear HL2 hs2
  go_wp2_with fail
  refine hK.out _ _ (hHeld.trans HG2.out) (fun hHeld => ?_)
  clear hK K
  try simp only [Act.put, List.setIfInBounds_toArray, List.set_cons_zero, List.set_cons_succ]
  refine wpAnyH_take (i := 11) (oi := { dst := some 67, op := Op.move (Operand.tmp 78), type := 71, pos := "trie.go:82", after := #[{ on := 10, ground := Ground.data }], guard := none }) (v := ?_) rfl (by kernel_rfl) (by kernel_rfl) (by kernel_rfl) (fun _ _ _ h => h) (Or.inl ⟨by rfl, ?_⟩) hHeld ?_
  rotate_left
  · intro w hSw
    clear hSw
    go_simp
    try with_reducible rfl
  try simp only [Act.put, List.setIfInBounds_toArray, List.set_cons_zero, List.set_cons_succ]
  refine wpAnyH_take (i := 12) (oi := { dst := some 79, op := Op.extract (Operand.tmp 67) 0, type := 68, pos := "trie.go:82", after := #[{ on := 11, ground := Ground.data }], guard := none }) (v := ?_) rfl (by kernel_rfl) (by kernel_rfl) (by kernel_rfl) (fun _ _ _ h => h) (Or.inl ⟨by rfl, ?_⟩) hHeld ?_
  rotate_left
  · intro w hSw
    clear hSw
    go_simp
    try with_reducible rfl
  try simp only [Act.put, List.setIfInBounds_toArray, List.set_cons_zero, List.set_cons_succ]
  refine wpAnyH_take (i := 13) (oi := { dst := some 80, op := Op.extract (Operand.tmp 67) 1, type := 4, pos := "trie.go:82", after := #[{ on := 11, ground := Ground.data }, { on := 17, ground := Ground.gcOnly Departure.lateStores }], guard := none }) (v := ?_) rfl (by kernel_rfl) (by kernel_rfl) (by kernel_rfl) (fun _ _ _ h => h) (Or.inl ⟨by rfl, ?_⟩) hHeld ?_
  rotate_left
  · intro w hSw
    clear hSw
    go_simp
    try with_reducible rfl
  try simp only [Act.put, List.setIfInBounds_toArray, List.set_cons_zero, List.set_cons_succ]
  refine wpAnyH_take (i := 16) (oi := { dst := some 83, op := Op.indexAddr 74 (Operand.tmp 82) (Operand.tmp 69), type := 0, pos := "trie.go:82", after := #[{ on := 15, ground := Ground.data }, { on := 1, ground := Ground.data }, { on := 0, ground := Ground.phase }, { on := 1, ground := Ground.phase }, { on := 2, ground := Ground.phase }, { on := 3, ground := Ground.phase }, { on := 4, ground := Ground.phase }, { on := 5, ground := Ground.phase }, { on := 6, ground := Ground.phase }, { on := 7, ground := Ground.phase }, { on := 8, ground := Ground.phase }, { on := 9, ground := Ground.phase }, { on := 10, ground := Ground.phase }, { on := 11, ground := Ground.phase }, { on := 12, ground := Ground.phase }, { on := 13, ground := Ground.textOnly Departure.lateStores }], guard := none }) (v := ?_) rfl (by kernel_rfl) (by kernel_rfl) (by kernel_rfl) (fun _ _ _ h => h) (Or.inl ⟨by rfl, ?_⟩) hHeld ?_
  rotate_left
  · intro w hSw
    clear hSw
    go_simp
    try with_reducible rfl
  try simp only [Act.put, List.setIfInBounds_toArray, List.set_cons_zero, List.set_cons_succ]
  refine wpAnyH_ready (rs := [17]) (by kernel_rfl) (by simp) ?_
  refine AllReadyH.cons (o := { dst := none, op := Op.store 68 (Operand.tmp 83) (Operand.tmp 79), type := 0, pos := "trie.go:82", after := #[{ on := 16, ground := Ground.data }, { on := 12, ground := Ground.data }, { on := 10, ground := Ground.chain }, { on := 0, ground := Ground.phase }, { on := 1, ground := Ground.phase }, { on := 2, ground := Ground.phase }, { on := 3, ground := Ground.phase }, { on := 4, ground := Ground.phase }, { on := 5, ground := Ground.phase }, { on := 6, ground := Ground.phase }, { on := 7, ground := Ground.phase }, { on := 8, ground := Ground.phase }, { on := 9, ground := Ground.phase }, { on := 10, ground := Ground.phase }, { on := 11, ground := Ground.phase }, { on := 12, ground := Ground.phase }, { on := 13, ground := Ground.textOnly Departure.lateStores }], guard := none }) rfl (fun K hK => ?_) AllReadyH.nil
  go_simp
  skip
  refine hK.out _ _ (hHeld.trans (GrownX.of_row (setCell_row _ _ _ _) HSB.out.1)) (fun hHeld => ?_)
  clear hK K
  try simp only [Act.put, List.setIfInBounds_toArray, List.set_cons_zero, List.set_cons_succ]
  refine wpAnyH_take (i := 18) (oi := { dst := some 11, op := Op.assign (Operand.tmp 80), type := 4, pos := "trie.go:82", after := #[{ on := 13, ground := Ground.data }, { on := 17, ground := Ground.chain }, { on := 0, ground := Ground.phase }, { on := 1, ground := Ground.phase }, { on := 2, ground := Ground.phase }, { on := 3, ground := Ground.phase }, { on := 4, ground := Ground.phase }, { on := 5, ground := Ground.phase }, { on := 6, ground := Ground.phase }, { on := 7, ground := Ground.phase }, { on := 8, ground := Ground.phase }, { on := 9, ground := Ground.phase }, { on := 10, ground := Ground.phase }, { on := 11, ground := Ground.phase }, { on := 12, ground := Ground.phase }, { on := 13, ground := Ground.phase }, { on := 14, ground := Ground.phase }, { on := 15, ground := Ground.phase }, { on := 16, ground := Ground.phase }, { on := 17, ground := Ground.phase }], guard := none }) (v := ?_) rfl (by kernel_rfl) (by kernel_rfl) (by kernel_rfl) (fun _ _ _ h => h) (Or.inl ⟨by rfl, ?_⟩) hHeld ?_
  rotate_left
  · intro w hSw
    clear hSw
    go_simp
    try with_reducible rfl
  try simp only [Act.put, List.setIfInBounds_toArray, List.set_cons_zero, List.set_cons_succ]
  refine wpAnyH_done (by kernel_rfl) ?_ _
  go_wp2_with fail
  go_ret2
  exact ⟨_, _, rfl, HS2.out⟩
end Go.Proofs.Ythnjepehiddogaa
