/-
  Contract of (*Trie).Set. Conditions: sizes.
-/
import Derived.Test.YthnjepehiddogaaTrM
set_option linter.unusedVariables false
set_option linter.unusedSimpArgs false
namespace Go.Proofs.Ythnjepehiddogaa
open Go.RowKit Go.MapKept

theorem infoRt : (Try.prog.info? 70).map (fun i => (i.zero, i.size, i.bytes)) = some (some (.agg #[.int .i64 0, .int .u64 0, .pointer none]), 3, 24) := by kernel_rfl
theorem info_parts3 {e : TypeId} {z : Value} {s b : Nat} (h : (Try.prog.info? e).map (fun i => (i.zero, i.size, i.bytes)) = some (some z, s, b)) : ∃ i, Try.prog.info? e = some i ∧ i.zero = some z ∧ i.size = s ∧ i.bytes = b := by
  cases hi : Try.prog.info? e with
  | none => rw [hi] at h; cases h
  | some i =>
    rw [hi] at h
    simp only [Option.map_some, Option.some.injEq, Prod.mk.injEq] at h
    exact ⟨i, rfl, h.1, h.2.1, h.2.2⟩
theorem Src.new {P : Program} {w : World} {t2 e : TypeId} {size c : Nat} (cs : Array Value) (te : TypeId) (ht : P.underlying t2 = some (.slice e)) (hs : cs.size = size) (h1 : ∀ u ∈ cs.toList, u.oneCell' = true) :
    Src P (w.alloc (.cells cs te)) t2 size (.slice (some ⟨w.heap.size, 0, none⟩) 1 c) 1 cs.toList :=
  Src.slice ht (by simp [hs]) (fun j x hx => by
    rw [add_flat, cell_of_row _ w.heap.size j _ _ _ (heap_alloc_new w _)]
    simpa using hx) h1
theorem set3 {α : Type} (a b c : α) : ∀ (l : List α) (j : Nat), j + 3 ≤ l.length → ((l.set j a).set (j + 1) b).set (j + 2) c = l.take j ++ [a, b, c] ++ l.drop (j + 3)
  | [], j, h => by simp at h
  | [_], 0, h => by simp at h
  | [_, _], 0, h => by simp at h
  | x :: y :: z :: r, 0, h => rfl
  | x :: l, j + 1, h => by
    have ih := set3 a b c l j (by simp at h; omega)
    rw [List.set_cons_succ, show j + 1 + 1 = (j + 1) + 1 from rfl, List.set_cons_succ, show j + 1 + 2 = (j + 2) + 1 from rfl, List.set_cons_succ, ih, List.take_succ_cons, show j + 1 + 3 = (j + 3) + 1 from rfl, List.drop_succ_cons]
    rfl
/-- a root's cells, put in between -/
theorem flatR_put (R : List Rt) (i : Nat) (hi : i ≤ R.length) (N : Rt) (z : List Value) (hz : z.length = 3) (a b c : Value) (hN : rootC N = [a, b, c]) :
    (((((flatR R ++ z).take ((i + 1) * 3) ++ ((flatR R ++ z).drop (i * 3)).take ((R.length + 1 - (i + 1)) * 3)).set (i * 3) a).set (i * 3 + 1) b).set (i * 3 + 2) c) = flatR (R.take i ++ N :: R.drop i) := by
  have hl := flatR_length R
  have hl2 : (flatR R ++ z).length = R.length * 3 + 3 := by rw [List.length_append, hl, hz]
  have hlen : ((flatR R ++ z).take ((i + 1) * 3)).length = i * 3 + 3 := by
    rw [List.length_take, hl2]
    omega
  rw [set3 a b c _ _ (by rw [List.length_append, hlen]; omega)]
  have e1 : ((flatR R ++ z).take ((i + 1) * 3) ++ ((flatR R ++ z).drop (i * 3)).take ((R.length + 1 - (i + 1)) * 3)).take (i * 3) = flatR (R.take i) := by
    rw [List.take_append_of_le_length (by rw [hlen]; omega), List.take_take, show min (i * 3) ((i + 1) * 3) = i * 3 by omega, List.take_append_of_le_length (by omega), flatR_take R i hi]
  have e2 : ((flatR R ++ z).take ((i + 1) * 3) ++ ((flatR R ++ z).drop (i * 3)).take ((R.length + 1 - (i + 1)) * 3)).drop (i * 3 + 3) = flatR (R.drop i) := by
    rw [List.drop_append_of_le_length (by rw [hlen]; omega), List.drop_of_length_le (by rw [hlen]; omega), List.nil_append, List.drop_append_of_le_length (by omega), flatR_drop R i hi, List.take_append_of_le_length (by rw [flatR_length, List.length_drop]; omega), List.take_of_length_le (by rw [flatR_length, List.length_drop]; omega)]
  rw [e1, e2, flatR_append]
  unfold flatR
  rw [List.flatMap_cons, hN, List.append_assoc]
/-- copy within one own row, where the place may be at its end -/
theorem OwnM.shift2 {P : Program} {w : World} {base : Nat} {dT sT ty e : TypeId} {size g n cap i j c1 c2 : Nat} {D : Option Addr} {xs : List Value} (h : OwnM w base e size (.slice (some ⟨g, 0, none⟩) n cap) n xs) (hi : i < n) (hj : j = i + 1) (h1 : ∀ u ∈ xs, u.oneCell' = true)
    (hu : P.underlying dT = some (.slice e)) (hs : (P.info? e).map (·.size) = some size) (hD : D = some ⟨g, j * size, none⟩ ∨ (n = j ∧ ∃ a, D = some a)) :
    ∃ w', (Builtin.copy_ #[dT, sT] ty #[.slice D (n - j) c1, .slice (some ⟨g, i * size, none⟩) (n - i) c2]).run P w = .ok (goInt ((n - j : Nat) : Int)) w' ∧
      OwnM w' base e size (.slice (some ⟨g, 0, none⟩) n cap) n (xs.take ((i + 1) * size) ++ (xs.drop (i * size)).take ((n - (i + 1)) * size)) ∧ w.grownBy w' (some g) := by
  subst hj
  rcases hD with rfl | ⟨hn, a, rfl⟩
  · exact h.shift hi h1 hu hs
  · refine ⟨w, ?_, ?_, grown_refl w _⟩
    · have hl : (loadCells ⟨g, i * size, none⟩ 0).run P w = .ok #[] w := by simpa using run_loadCells_list (P := P) w ⟨g, i * size, none⟩ [] (by simp)
      cases hq : P.info? e with
      | none => simp [hq] at hs
      | some k => simp [Builtin.copy_, run_underlying hu, Builtin.lenOf, Builtin.firstCells, sizeOf, typeInfo, hq, storeCells, hl, hn]
    · have hxl := h.1
      rw [← hn, Nat.sub_self, Nat.zero_mul, List.take_zero, List.append_nil, List.take_of_length_le (by rw [hxl]; omega)]
      exact h
theorem OwnM.there {w : World} {base : Nat} {e : TypeId} {size g n cap j : Nat} {xs : List Value} (h : OwnM w base e size (.slice (some ⟨g, 0, none⟩) n cap) n xs) (hj : j < n * size) : ∃ u, w.cell? ⟨g, j, none⟩ = some u ∧ w.frozen? ⟨g, j, none⟩ = false :=
  ⟨_, h.reads (List.getElem?_eq_getElem (show j < xs.length by rw [h.1]; exact hj))⟩
theorem GrownX.trans2 {X Y : Nat → Prop} {a b c : World} (h : GrownX X a b) (k : GrownX Y b c) (hy : ∀ i, Y i → X i ∨ a.heap.size ≤ i) : GrownX X a c :=
  ⟨k.os.trans h.os, k.tape.trans h.tape, k.output.trans h.output, Nat.le_trans h.size k.size, fun i hi hx => (k.block i (Nat.lt_of_lt_of_le hi h.size) (fun y => (hy i y).elim hx (fun z => by omega))).trans (h.block i hi hx)⟩
theorem keep3 (W : World) (g o1 o2 o3 : Nat) (a b c : Value) : GrownX (fun x => x = g) W (((W.setCell ⟨g, o1, none⟩ a).setCell ⟨g, o2, none⟩ b).setCell ⟨g, o3, none⟩ c).drew :=
  ((((GrownX.of_row (X := fun x => x = g) (setCell_row W g o1 a) rfl).trans (GrownX.of_row (setCell_row _ g o2 b) rfl)).trans (GrownX.of_row (setCell_row _ g o3 c) rfl))).drew 1
def TSetPost (w : World) (bt base : Nat) (v : Value) (R : List Rt) (p : Tp) (u : Int) (e : Ending) (w' : World) : Prop :=
  ∃ v' n' R', e = .returned (.int .i64 0) ∧ Laid w bt base v R w' v' n' R' ∧ ∀ q x, RMem R' q x ↔ (q = p ∧ x = u) ∨ (q ≠ p ∧ RMem R q x)
set_option maxRecDepth 100000 in
set_option maxHeartbeats 8000000 in
theorem tset_any (p : Tp) (hp : p.Ok) (hf : (p.fam = 1 ∨ p.fam = 2) ∧ p.rd = 0) (u : Int) (bt base : Nat) (v : Value) (n : Int) (R : List Rt) (w : World) (h : TrieAt w bt base v n R) (hbase : base ≤ w.heap.size) :
    Calls Try.prog 19 #[.pointer (some ⟨bt, 0, none⟩), p.v, .int .i64 u] w (TSetPost w bt base v R p u) := by
  have hps := hp.small
  have HPO := Lib.hid hp
  have HF := Lib.hid hf
  have HT := Lib.hid h
  obtain ⟨t0, t1, t2, _⟩ := h.c3
  have hbt := h.c.lt
  have HRO := Lib.hid (fun (w1 : World) (hb : Below w.heap.size w w1) => root_any p bt base v n R w1 (h.below hb))
  have HCK := Lib.hid (fun w => check_any p.fam p.rd p.addr (p.len : Nat) w (by omega))
  rw [show prefC p.fam p.rd p.addr (p.len : Nat) = 0 from if_pos hp] at HCK
  have HSET := Lib.hid (fun T S q w hg ht => set_any p hp u T (fun _ => True) S q w hg ht)
  clear h hp hf
  unfold Tp.v at HRO HSET ⊢
  go_enter Try.func19, Try.ntmps19
  go_wp2_with fail
  refine (tnone_any bt _ ((HT.out.below ((Below.refl _ _).alloc (Nat.le_refl _) _)).c3.1)).mono ?_
  rintro e w1 ⟨rfl, hw1⟩
  subst hw1
  go_wp2_with fail
  refine (HCK.out _).mono ?_
  rintro e w1 ⟨rfl, hb1⟩
  have HP1 : Hid (CellsAt w1 w.heap.size #[.int .i64 p.fam, .int .u64 p.rd, .string p.addr, .int .i64 (p.len : Nat)] 30) := (CellsAt.new w _ _).below hb1 (by simp)
  have HB1 : Hid (Below w.heap.size w w1) := by
    show Below _ _ _
    exact ((Below.refl _ _).alloc (Nat.le_refl _) _).trans (hb1.mono (by simp))
  clear hb1
  obtain ⟨p0, p1, p2, p3, _⟩ := c4_at HP1.out
  go_wp2_with fail
  refine (HRO.out _ HB1.out).mono ?_
  rintro e w2 ⟨i, b, rfl, hri, hb2⟩
  have HP2 : Hid (CellsAt w2 w.heap.size #[.int .i64 p.fam, .int .u64 p.rd, .string p.addr, .int .i64 (p.len : Nat)] 30) := HP1.out.below hb2 HP1.out.lt
  have HB2 : Hid (Below w.heap.size w w2) := HB1.out.trans (hb2.mono HB1.out.size)
  have HT2 : Hid (TrieAt w2 bt base v n R) := HT.out.below HB2.out
  clear hb2 HP1 HB1 p0 p1 p2 p3 t0 t1 t2 HRO HCK
  cases b with
  | true =>
    obtain ⟨r, hr, hrf, hrd⟩ := hri
    have HNZ : Hid (¬ trX bt v R w.heap.size) := fun hx => Nat.lt_irrefl _ (HT.out.lt _ hx)
    obtain ⟨g, cap, hv, hgl, hnc, hcm, hil, hgt, hgs, r0, r1, r2, zr⟩ := HT2.out.at_ hr
    subst hv
    have h2 := HT2.out.two
    obtain ⟨t0, t1, t2, _⟩ := HT2.out.c3
    obtain ⟨p0, p1, p2, p3, _⟩ := c4_at HP2.out
    have hrm := List.mem_of_getElem? hr
    have HG : Hid (r.t.Good p.fam p.rd (fun _ => True)) := by
      have := HT2.out.g r hrm
      rw [hrf, hrd] at this
      exact this
    have HTr := Lib.hid (HT2.out.t r hrm)
    have HRM := Lib.hid (fun A S => rmem_laid (A' := A) (S' := S) (N := fun q x => q = p ∧ x = u) HT2.out.ord HT2.out.g hr hrf hrd (fun q x h => h.1) (set_mem (z := 0) HPO.out rfl rfl HG.out))
    have HGD : Hid ((r.t.set 0 p u).Good r.fam r.rd (fun _ => True)) := by
      rw [hrf, hrd]
      exact set_good HPO.out rfl rfl HG.out trivial (fun _ _ _ => trivial)
    have HXX : Hid (∀ w', GrownX (fun x => x ∈ r.S ∨ x = g) w2 w' → w'.cell? ⟨bt, 1, none⟩ = some (.slice (some ⟨g, 0, none⟩) R.length cap) ∧ w'.cell? ⟨w.heap.size, 0, none⟩ = some (.int .i64 p.fam) ∧ w'.cell? ⟨w.heap.size, 1, none⟩ = some (.int .u64 p.rd) ∧ w'.cell? ⟨w.heap.size, 2, none⟩ = some (.string p.addr) ∧ w'.cell? ⟨w.heap.size, 3, none⟩ = some (.int .i64 (p.len : Nat))) := fun w' hw' => by
      have hn0 : ¬ (w.heap.size ∈ r.S ∨ w.heap.size = g) := fun hx => HNZ.out (hx.elim (fun k => Or.inr (Or.inr ⟨r, hrm, k⟩)) (fun e => Or.inr (Or.inl (by rw [e]; rfl))))
      have hbb : ¬ (bt ∈ r.S ∨ bt = g) := fun hx => hx.elim (HT2.out.nt r hrm) (fun e => hgt e.symm)
      obtain ⟨q0, q1, q2, q3, _⟩ := c4_at (HP2.out.grownX hw' hn0)
      exact ⟨((HT2.out.c.grownX hw' hbb).c 1).trans rfl, q0, q1, q2, q3⟩
    have HRR := Lib.hid hr
    unfold maxLen at hcm
    clear hr hrm hrf hrd
    go_wp2_with fail
    refine wp_region_held_drew (S := fun w' => GrownX (fun x => x ∈ r.S ∨ x = g) w2 w') (by kernel_rfl) (GrownX.of_below (below_drewN (Below.refl _ _) 1)) (fun hHeld => ?_)
    refine wpAnyH_take (i := 0) (oi := { dst := some 62, op := Op.move (Operand.tmp 0), type := 48, pos := "trie.go:111", after := #[], guard := none }) (v := ?_) rfl (by kernel_rfl) (by kernel_rfl) (by kernel_rfl) (fun _ _ _ h => h) (Or.inl ⟨by rfl, ?_⟩) hHeld ?_
    rotate_left
    · intro w hSw
      clear hSw
      go_simp
      try with_reducible rfl
    try simp only [Act.put, List.setIfInBounds_toArray, List.set_cons_zero, List.set_cons_succ]
    refine wpAnyH_take (i := 1) (oi := { dst := some 63, op := Op.nilCheck (Operand.tmp 62), type := 0, pos := "trie.go:111", after := #[{ on := 0, ground := Ground.data }], guard := none }) (v := ?_) rfl (by kernel_rfl) (by kernel_rfl) (by kernel_rfl) (fun _ _ _ h => h) (Or.inl ⟨by rfl, ?_⟩) hHeld ?_
    rotate_left
    · intro w hSw
      clear hSw
      go_simp
      try with_reducible rfl
    try simp only [Act.put, List.setIfInBounds_toArray, List.set_cons_zero, List.set_cons_succ]
    refine wpAnyH_take (i := 2) (oi := { dst := some 64, op := Op.fieldAddr 66 (Operand.tmp 63) 1, type := 0, pos := "trie.go:111", after := #[{ on := 1, ground := Ground.data }], guard := none }) (v := ?_) rfl (by kernel_rfl) (by kernel_rfl) (by kernel_rfl) (fun _ _ _ h => h) (Or.inl ⟨by rfl, ?_⟩) hHeld ?_
    rotate_left
    · intro w hSw
      clear hSw
      go_simp
      try with_reducible rfl
    try simp only [Act.put, List.setIfInBounds_toArray, List.set_cons_zero, List.set_cons_succ]
    refine wpAnyH_take (i := 3) (oi := { dst := some 65, op := Op.load 64 (Operand.tmp 64), type := 64, pos := "trie.go:111", after := #[{ on := 2, ground := Ground.data }], guard := none }) (v := ?_) rfl (by kernel_rfl) (by kernel_rfl) (by kernel_rfl) (fun _ _ _ h => h) (Or.inl ⟨by rfl, ?_⟩) hHeld ?_
    rotate_left
    · intro w hSw
      obtain ⟨t1', p0', p1', p2', p3'⟩ := HXX.out _ hSw
      go_simp
      try with_reducible rfl
    try simp only [Act.put, List.setIfInBounds_toArray, List.set_cons_zero, List.set_cons_succ]
    refine wpAnyH_take (i := 4) (oi := { dst := some 66, op := Op.move (Operand.tmp 8), type := 3, pos := "trie.go:111", after := #[], guard := none }) (v := ?_) rfl (by kernel_rfl) (by kernel_rfl) (by kernel_rfl) (fun _ _ _ h => h) (Or.inl ⟨by rfl, ?_⟩) hHeld ?_
    rotate_left
    · intro w hSw
      clear hSw
      go_simp
      try with_reducible rfl
    try simp only [Act.put, List.setIfInBounds_toArray, List.set_cons_zero, List.set_cons_succ]
    refine wpAnyH_take (i := 5) (oi := { dst := some 67, op := Op.move (Operand.tmp 0), type := 48, pos := "trie.go:111", after := #[], guard := none }) (v := ?_) rfl (by kernel_rfl) (by kernel_rfl) (by kernel_rfl) (fun _ _ _ h => h) (Or.inl ⟨by rfl, ?_⟩) hHeld ?_
    rotate_left
    · intro w hSw
      clear hSw
      go_simp
      try with_reducible rfl
    try simp only [Act.put, List.setIfInBounds_toArray, List.set_cons_zero, List.set_cons_succ]
    refine wpAnyH_take (i := 6) (oi := { dst := some 68, op := Op.nilCheck (Operand.tmp 67), type := 0, pos := "trie.go:111", after := #[{ on := 5, ground := Ground.data }], guard := none }) (v := ?_) rfl (by kernel_rfl) (by kernel_rfl) (by kernel_rfl) (fun _ _ _ h => h) (Or.inl ⟨by rfl, ?_⟩) hHeld ?_
    rotate_left
    · intro w hSw
      clear hSw
      go_simp
      try with_reducible rfl
    try simp only [Act.put, List.setIfInBounds_toArray, List.set_cons_zero, List.set_cons_succ]
    refine wpAnyH_take (i := 7) (oi := { dst := some 69, op := Op.fieldAddr 66 (Operand.tmp 68) 1, type := 0, pos := "trie.go:111", after := #[{ on := 6, ground := Ground.data }], guard := none }) (v := ?_) rfl (by kernel_rfl) (by kernel_rfl) (by kernel_rfl) (fun _ _ _ h => h) (Or.inl ⟨by rfl, ?_⟩) hHeld ?_
    rotate_left
    · intro w hSw
      clear hSw
      go_simp
      try with_reducible rfl
    try simp only [Act.put, List.setIfInBounds_toArray, List.set_cons_zero, List.set_cons_succ]
    refine wpAnyH_take (i := 8) (oi := { dst := some 70, op := Op.load 64 (Operand.tmp 69), type := 64, pos := "trie.go:111", after := #[{ on := 7, ground := Ground.data }], guard := none }) (v := ?_) rfl (by kernel_rfl) (by kernel_rfl) (by kernel_rfl) (fun _ _ _ h => h) (Or.inl ⟨by rfl, ?_⟩) hHeld ?_
    rotate_left
    · intro w hSw
      obtain ⟨t1', p0', p1', p2', p3'⟩ := HXX.out _ hSw
      go_simp
      try with_reducible rfl
    try simp only [Act.put, List.setIfInBounds_toArray, List.set_cons_zero, List.set_cons_succ]
    refine wpAnyH_take (i := 9) (oi := { dst := some 71, op := Op.move (Operand.tmp 8), type := 3, pos := "trie.go:111", after := #[], guard := none }) (v := ?_) rfl (by kernel_rfl) (by kernel_rfl) (by kernel_rfl) (fun _ _ _ h => h) (Or.inl ⟨by rfl, ?_⟩) hHeld ?_
    rotate_left
    · intro w hSw
      clear hSw
      go_simp
      try with_reducible rfl
    try simp only [Act.put, List.setIfInBounds_toArray, List.set_cons_zero, List.set_cons_succ]
    refine wpAnyH_take (i := 10) (oi := { dst := some 72, op := Op.indexAddr 64 (Operand.tmp 70) (Operand.tmp 71), type := 0, pos := "trie.go:111", after := #[{ on := 8, ground := Ground.data }, { on := 9, ground := Ground.data }], guard := none }) (v := ?_) rfl (by kernel_rfl) (by kernel_rfl) (by kernel_rfl) (fun _ _ _ h => h) (Or.inl ⟨by rfl, ?_⟩) hHeld ?_
    rotate_left
    · intro w hSw
      clear hSw
      go_simp
      try with_reducible rfl
    try simp only [Act.put, List.setIfInBounds_toArray, List.set_cons_zero, List.set_cons_succ]
    refine wpAnyH_take (i := 11) (oi := { dst := some 73, op := Op.fieldAddr 70 (Operand.tmp 72) 2, type := 0, pos := "trie.go:111", after := #[{ on := 10, ground := Ground.data }], guard := none }) (v := ?_) rfl (by kernel_rfl) (by kernel_rfl) (by kernel_rfl) (fun _ _ _ h => h) (Or.inl ⟨by rfl, ?_⟩) hHeld ?_
    rotate_left
    · intro w hSw
      clear hSw
      go_simp
      try with_reducible rfl
    try simp only [Act.put, List.setIfInBounds_toArray, List.set_cons_zero, List.set_cons_succ]
    refine wpAnyH_take (i := 13) (oi := { dst := some 75, op := Op.load 30 (Operand.tmp 4), type := 30, pos := "trie.go:111", after := #[], guard := none }) (v := ?_) rfl (by kernel_rfl) (by kernel_rfl) (by kernel_rfl) (fun _ _ _ h => h) (Or.inl ⟨by rfl, ?_⟩) hHeld ?_
    rotate_left
    · intro w hSw
      obtain ⟨t1', p0', p1', p2', p3'⟩ := HXX.out _ hSw
      go_simp
      try with_reducible rfl
    try simp only [Act.put, List.setIfInBounds_toArray, List.set_cons_zero, List.set_cons_succ]
    refine wpAnyH_take (i := 14) (oi := { dst := some 76, op := Op.move (Operand.tmp 2), type := 3, pos := "trie.go:111", after := #[], guard := none }) (v := ?_) rfl (by kernel_rfl) (by kernel_rfl) (by kernel_rfl) (fun _ _ _ h => h) (Or.inl ⟨by rfl, ?_⟩) hHeld ?_
    rotate_left
    · intro w hSw
      clear hSw
      go_simp
      try with_reducible rfl
    try simp only [Act.put, List.setIfInBounds_toArray, List.set_cons_zero, List.set_cons_succ]
    refine wpAnyH_ready (rs := [12]) (by kernel_rfl) (by simp) ?_
    refine AllReadyH.cons (o := { dst := some 74, op := Op.load 68 (Operand.tmp 73), type := 68, pos := "trie.go:111", after := #[{ on := 11, ground := Ground.data }], guard := none }) rfl (fun K hK => ?_) AllReadyH.nil
    go_simp
    skip
    refine hK.out _ _ (hHeld) (fun hHeld => ?_)
    clear hK K
    try simp only [Act.put, List.setIfInBounds_toArray, List.set_cons_zero, List.set_cons_succ]
    refine wpAnyH_ready (rs := [15]) (by kernel_rfl) (by simp) ?_
    refine AllReadyH.cons (o := { dst := some 77, op := Op.call { callee := Callee.value (Operand.func 32), args := #[Operand.tmp 74, Operand.tmp 75, Operand.tmp 76], argTypes := #[68, 30, 3] }, type := 71, pos := "trie.go:111", after := #[{ on := 12, ground := Ground.data }, { on := 13, ground := Ground.data }, { on := 14, ground := Ground.data }], guard := none }) rfl (fun K hK => ?_) AllReadyH.nil
    go_simp
    refine (HSET.out r.t r.S _ _ HG.out (HTr.out.below' (below_drewN (Below.refl _ _) 1))).mono ?_
    rintro e w9 ⟨q9, S9, rfl, hs9⟩
    obtain ⟨A9, rfl⟩ := hs9.t.form
    obtain ⟨hL9, j9, y9⟩ := HT2.out.laid HRR.out (hs9.from_ (below_drewN (Below.refl _ _) 1)) HGD.out
    have HL9 := Lib.hid hL9
    have HG9 := Lib.hid (hs9.g.mono (Y := fun x => x ∈ r.S ∨ x = g) (fun x hx => Or.inl hx))
    clear hs9 hL9
    go_wp2_with fail
    refine hK.out _ _ (hHeld.trans HG9.out) (fun hHeld => ?_)
    clear hK K
    try simp only [Act.put, List.setIfInBounds_toArray, List.set_cons_zero, List.set_cons_succ]
    refine wpAnyH_take (i := 16) (oi := { dst := some 61, op := Op.move (Operand.tmp 77), type := 71, pos := "trie.go:111", after := #[{ on := 15, ground := Ground.data }], guard := none }) (v := ?_) rfl (by kernel_rfl) (by kernel_rfl) (by kernel_rfl) (fun _ _ _ h => h) (Or.inl ⟨by rfl, ?_⟩) hHeld ?_
    rotate_left
    · intro w hSw
      clear hSw
      go_simp
      try with_reducible rfl
    try simp only [Act.put, List.setIfInBounds_toArray, List.set_cons_zero, List.set_cons_succ]
    refine wpAnyH_take (i := 17) (oi := { dst := some 78, op := Op.extract (Operand.tmp 61) 0, type := 68, pos := "trie.go:111", after := #[{ on := 16, ground := Ground.data }], guard := none }) (v := ?_) rfl (by kernel_rfl) (by kernel_rfl) (by kernel_rfl) (fun _ _ _ h => h) (Or.inl ⟨by rfl, ?_⟩) hHeld ?_
    rotate_left
    · intro w hSw
      clear hSw
      go_simp
      try with_reducible rfl
    try simp only [Act.put, List.setIfInBounds_toArray, List.set_cons_zero, List.set_cons_succ]
    refine wpAnyH_take (i := 18) (oi := { dst := some 79, op := Op.extract (Operand.tmp 61) 1, type := 4, pos := "trie.go:111", after := #[{ on := 16, ground := Ground.data }, { on := 21, ground := Ground.gcOnly Departure.lateStores }], guard := none }) (v := ?_) rfl (by kernel_rfl) (by kernel_rfl) (by kernel_rfl) (fun _ _ _ h => h) (Or.inl ⟨by rfl, ?_⟩) hHeld ?_
    rotate_left
    · intro w hSw
      clear hSw
      go_simp
      try with_reducible rfl
    try simp only [Act.put, List.setIfInBounds_toArray, List.set_cons_zero, List.set_cons_succ]
    refine wpAnyH_take (i := 19) (oi := { dst := some 80, op := Op.indexAddr 64 (Operand.tmp 65) (Operand.tmp 66), type := 0, pos := "trie.go:111", after := #[{ on := 3, ground := Ground.data }, { on := 4, ground := Ground.data }, { on := 0, ground := Ground.phase }, { on := 1, ground := Ground.phase }, { on := 2, ground := Ground.phase }, { on := 3, ground := Ground.phase }, { on := 4, ground := Ground.phase }, { on := 5, ground := Ground.phase }, { on := 6, ground := Ground.phase }, { on := 7, ground := Ground.phase }, { on := 8, ground := Ground.phase }, { on := 9, ground := Ground.phase }, { on := 10, ground := Ground.phase }, { on := 11, ground := Ground.phase }, { on := 12, ground := Ground.phase }, { on := 13, ground := Ground.phase }, { on := 14, ground := Ground.phase }, { on := 15, ground := Ground.phase }, { on := 16, ground := Ground.phase }, { on := 17, ground := Ground.phase }, { on := 18, ground := Ground.textOnly Departure.lateStores }], guard := none }) (v := ?_) rfl (by kernel_rfl) (by kernel_rfl) (by kernel_rfl) (fun _ _ _ h => h) (Or.inl ⟨by rfl, ?_⟩) hHeld ?_
    rotate_left
    · intro w hSw
      clear hSw
      go_simp
      try with_reducible rfl
    try simp only [Act.put, List.setIfInBounds_toArray, List.set_cons_zero, List.set_cons_succ]
    refine wpAnyH_take (i := 20) (oi := { dst := some 81, op := Op.fieldAddr 70 (Operand.tmp 80) 2, type := 0, pos := "trie.go:111", after := #[{ on := 19, ground := Ground.data }, { on := 0, ground := Ground.phase }, { on := 1, ground := Ground.phase }, { on := 2, ground := Ground.phase }, { on := 3, ground := Ground.phase }, { on := 4, ground := Ground.phase }, { on := 5, ground := Ground.phase }, { on := 6, ground := Ground.phase }, { on := 7, ground := Ground.phase }, { on := 8, ground := Ground.phase }, { on := 9, ground := Ground.phase }, { on := 10, ground := Ground.phase }, { on := 11, ground := Ground.phase }, { on := 12, ground := Ground.phase }, { on := 13, ground := Ground.phase }, { on := 14, ground := Ground.phase }, { on := 15, ground := Ground.phase }, { on := 16, ground := Ground.phase }, { on := 17, ground := Ground.phase }, { on := 18, ground := Ground.textOnly Departure.lateStores }], guard := none }) (v := ?_) rfl (by kernel_rfl) (by kernel_rfl) (by kernel_rfl) (fun _ _ _ h => h) (Or.inl ⟨by rfl, ?_⟩) hHeld ?_
    rotate_left
    · intro w hSw
      clear hSw
      go_simp
      try with_reducible rfl
    try simp only [Act.put, List.setIfInBounds_toArray, List.set_cons_zero, List.set_cons_succ]
    refine wpAnyH_ready (rs := [21]) (by kernel_rfl) (by simp) ?_
    refine AllReadyH.cons (o := { dst := none, op := Op.store 68 (Operand.tmp 81) (Operand.tmp 78), type := 0, pos := "trie.go:111", after := #[{ on := 20, ground := Ground.data }, { on := 17, ground := Ground.data }, { on := 15, ground := Ground.chain }, { on := 0, ground := Ground.phase }, { on := 1, ground := Ground.phase }, { on := 2, ground := Ground.phase }, { on := 3, ground := Ground.phase }, { on := 4, ground := Ground.phase }, { on := 5, ground := Ground.phase }, { on := 6, ground := Ground.phase }, { on := 7, ground := Ground.phase }, { on := 8, ground := Ground.phase }, { on := 9, ground := Ground.phase }, { on := 10, ground := Ground.phase }, { on := 11, ground := Ground.phase }, { on := 12, ground := Ground.phase }, { on := 13, ground := Ground.phase }, { on := 14, ground := Ground.phase }, { on := 15, ground := Ground.phase }, { on := 16, ground := Ground.phase }, { on := 17, ground := Ground.phase }, { on := 18, ground := Ground.textOnly Departure.lateStores }], guard := none }) rfl (fun K hK => ?_) AllReadyH.nil
    go_simp
    skip
    refine hK.out _ _ (hHeld.trans (GrownX.of_row (setCell_row _ _ _ _) (Or.inr rfl))) (fun hHeld => ?_)
    clear hK K
    try simp only [Act.put, List.setIfInBounds_toArray, List.set_cons_zero, List.set_cons_succ]
    refine wpAnyH_take (i := 22) (oi := { dst := some 10, op := Op.assign (Operand.tmp 79), type := 4, pos := "trie.go:111", after := #[{ on := 18, ground := Ground.data }, { on := 21, ground := Ground.chain }, { on := 0, ground := Ground.phase }, { on := 1, ground := Ground.phase }, { on := 2, ground := Ground.phase }, { on := 3, ground := Ground.phase }, { on := 4, ground := Ground.phase }, { on := 5, ground := Ground.phase }, { on := 6, ground := Ground.phase }, { on := 7, ground := Ground.phase }, { on := 8, ground := Ground.phase }, { on := 9, ground := Ground.phase }, { on := 10, ground := Ground.phase }, { on := 11, ground := Ground.phase }, { on := 12, ground := Ground.phase }, { on := 13, ground := Ground.phase }, { on := 14, ground := Ground.phase }, { on := 15, ground := Ground.phase }, { on := 16, ground := Ground.phase }, { on := 17, ground := Ground.phase }, { on := 18, ground := Ground.phase }, { on := 19, ground := Ground.phase }, { on := 20, ground := Ground.phase }, { on := 21, ground := Ground.phase }], guard := none }) (v := ?_) rfl (by kernel_rfl) (by kernel_rfl) (by kernel_rfl) (fun _ _ _ h => h) (Or.inl ⟨by rfl, ?_⟩) hHeld ?_
    rotate_left
    · intro w hSw
      clear hSw
      go_simp
      try with_reducible rfl
    try simp only [Act.put, List.setIfInBounds_toArray, List.set_cons_zero, List.set_cons_succ]
    refine wpAnyH_done (by kernel_rfl) ?_ _
    clear hHeld j9 y9
    obtain ⟨s0, s1, s2, ys1, ys2⟩ := HL9.out.t.c3
    generalize r.t.fresh p = fr
    cases fr
    · go_wp2_with fail
      go_ret
      exact ⟨_, _, _, rfl, HL9.out.from_ HB2.out, HRM.out _ _⟩
    · go_wp2_with fail
      go_ret
      exact ⟨_, _, _, rfl, (HL9.out.count _).from_ HB2.out, HRM.out _ _⟩
  | false =>
    have hri2 := Lib.hid hri
    have h2 := HT2.out.two
    have hil2 := hri.1
    obtain ⟨A, c, rfl⟩ := HT2.out.o.form
    obtain ⟨i0, hi0, hz0, hz1, hz2⟩ := info_parts3 infoRt
    have HO2 := Lib.hid HT2.out.o
    obtain ⟨t0, t1, t2, yt1, yt2⟩ := HT2.out.c3
    have hb2s := HP2.out.lt
    have hbase2 : base ≤ w2.heap.size := by omega
    clear hri
    go_wp2_with (at_builtin; refine wpList_append_m rfl (.tmp 30) (.tmp 32) 64 64 rfl base 70 i0 _ 3 24 Try.underlying64 hi0 hz0 hz1 hz2 rfl ?b0 _ R.length (flatR R) rfl ?b1 _ 1 [.int .i64 0, .int .u64 0, .pointer none] rfl ?b2 ?b3 ?b4 ?b5 ?b6)
    case b0 => omega
    case b1 => exact OwnM.alloc HO2.out _
    case b2 => exact Src.new (w := w2) _ _ Try.underlying64 rfl (fun u hu => flatR_one [⟨0, 0, none, [], .nil⟩] u hu)
    case b3 => (unfold maxLen; omega)
    case b4 => omega
    case b5 =>
      simp
      omega
    intro v' w5 hown hgr hat
    have hX5 : GrownX (fun i => (Value.slice A R.length c).ownBlock = some i) (w2.alloc (.cells #[.int .i64 0, .int .u64 0, .pointer none] 70)) w5 := ⟨hgr.os, hgr.tape, hgr.output, hgr.size, fun i hi hx => hgr.block i hi (fun e => hx e.symm)⟩
    have hX6 : GrownX (fun i => (Value.slice A R.length c).ownBlock = some i) w2 w5 := (GrownX.of_below ((Below.refl _ _).alloc (Nat.le_refl _) _)).trans hX5
    have hold : ∀ k, (Value.slice A R.length c).ownBlock = some k → k ≠ bt ∧ k < w.heap.size := fun k hk => ⟨HT.out.ne k hk, (HT.out.o.lt k hk).2⟩
    have HC5 : Hid (CellsAt w5 bt #[.bool true, .slice A R.length c, .int .i64 n] 66) := HT2.out.c.grownX hX6 (fun e => (hold _ e).1 rfl)
    have HP5 : Hid (CellsAt w5 w.heap.size #[.int .i64 p.fam, .int .u64 p.rd, .string p.addr, .int .i64 (p.len : Nat)] 30) := HP2.out.grownX hX6 (fun e => by
      have := (hold _ e).2
      omega)
    have HGX5 := Lib.hid (hX6.mono (Y := fun x => x = bt ∨ (Value.slice A R.length c).ownBlock = some x) (fun x hx => Or.inr hx))
    obtain ⟨g, cap, rfl, _, hgl, hnc, hcm, _, _⟩ := hown.cells (by omega)
    have hgo : g ≠ bt ∧ g ≠ w.heap.size := by
      rcases hat with e | e
      · have h1 : (Value.slice A R.length c).ownBlock = some g := e.symm
        have h2 := hold g h1
        exact ⟨h2.1, by omega⟩
      · have h1 : g = w2.heap.size + 1 := by
          simp only [Value.ownBlock, Option.some.injEq] at e
          simpa using e
        have h3 := HT2.out.c.lt
        exact ⟨by omega, by omega⟩
    have HAT : Hid ((Value.slice (some ⟨g, 0, none⟩) (R.length + 1) cap).ownBlock = (Value.slice A R.length c).ownBlock ∨ ∀ k, (Value.slice (some ⟨g, 0, none⟩) (R.length + 1) cap).ownBlock = some k → w2.heap.size ≤ k) := by
      rcases hat with e | e
      · exact Or.inl e
      · right
        intro k hk
        rw [e] at hk
        simp at hk
        omega
    have HO5 := Lib.hid hown
    obtain ⟨hgt, hgp⟩ := hgo
    clear hown hgr hat hX5 hX6 hold t0 t1 t2 yt1 yt2
    have t1 : w5.cell? ⟨bt, 1, none⟩ = some (.slice A R.length c) := (CellsAt.c HC5.out 1).trans rfl
    have yt1 := HC5.out.frozen 1
    unfold maxLen at hcm
    go_wp2_with fail
    refine wp_name fun W6 hW6 => ?_
    have HC6 : Hid (CellsAt W6 bt #[.bool true, .slice (some ⟨g, 0, none⟩) (R.length + 1) cap, .int .i64 n] 66) := by
      rw [hW6]
      exact (HC5.out.setc 1 _).cast rfl
    have hr6 := setCell_row w5 bt 1 (.slice (some ⟨g, 0, none⟩) (R.length + 1) cap)
    rw [← hW6] at hr6
    have HP6 : Hid (CellsAt W6 w.heap.size #[.int .i64 p.fam, .int .u64 p.rd, .string p.addr, .int .i64 (p.len : Nat)] 30) := HP5.out.row hr6 (by omega)
    have HO6 : Hid (OwnM W6 base 70 3 (.slice (some ⟨g, 0, none⟩) (R.length + 1) cap) (R.length + 1) (flatR R ++ [.int .i64 0, .int .u64 0, .pointer none])) := HO5.out.grown hr6 (fun k hk e => by
      obtain rfl : g = k := by simpa [Value.ownBlock] using hk
      exact hgt (by injection e))
    have HGX6 := Lib.hid (HGX5.out.trans (GrownX.of_row hr6 (Or.inl rfl)))
    clear hW6 hr6 HC5 HP5 HO5 HGX5 t1 yt1
    obtain ⟨j, hj⟩ : ∃ j : Nat, j = i + 1 := ⟨_, rfl⟩
    obtain ⟨D, hDD⟩ : ∃ D : Option Addr, D = if cap = j then some ⟨g, 0, none⟩ else some ⟨g, j * 3, none⟩ := ⟨_, rfl⟩
    have hwj : IntKind.i64.wrap ((i : Int) + 1) = (j : Int) := by
      rw [show (i : Int) + 1 = (j : Int) by omega]
      exact IntWalk.i64_in _ (by omega)
    have hj0 : (0 : Int) ≤ (j : Int) := by omega
    have hj1 : (j : Int) ≤ (R.length : Int) + 1 := by omega
    have hi1 : (i : Int) ≤ (R.length : Int) + 1 := by omega
    have hci : ¬ cap = i := by omega
    have hD : D = some ⟨g, j * 3, none⟩ ∨ (R.length + 1 = j ∧ ∃ a, D = some a) := by
      by_cases hc : cap = j
      · rw [if_pos hc] at hDD
        exact Or.inr ⟨by omega, _, hDD⟩
      · rw [if_neg hc] at hDD
        exact Or.inl hDD
    obtain ⟨W9, e9, o9, g9⟩ := OwnM.shift2 (P := Try.prog) (dT := 64) (sT := 64) (ty := 3) (i := i) (j := j) (D := D) (c1 := cap - j) (c2 := cap - i) (HO6.out.drew) (by omega) hj (fun u hu => by
      rcases List.mem_append.1 hu with hu | hu
      · exact flatR_one R u hu
      · exact flatR_one [⟨0, 0, none, [], .nil⟩] u hu) Try.underlying64 (by rw [hi0]; simp [hz1]) hD
    have HJ := Lib.hid hj
    have HDD := Lib.hid hDD
    clear hD hj hDD
    have HO9 := Lib.hid o9
    have HG9 : Hid (GrownX (fun x => x = g) W6 W9) := (GrownX.of_below (below_drewN (Below.refl _ _) 1)).trans (GrownX.of_row g9 rfl)
    have HSS : Hid (∀ w', GrownX (fun x => x = g) W6 w' → w'.cell? ⟨bt, 1, none⟩ = some (.slice (some ⟨g, 0, none⟩) (R.length + 1) cap)) := fun w' hw' => ((HC6.out.grownX hw' (fun e => hgt e.symm)).c 1).trans rfl
    clear o9 g9
    refine wp_region_held_drew (S := fun w' => GrownX (fun x => x = g) W6 w') (by kernel_rfl) (GrownX.of_below (below_drewN (Below.refl _ _) 1)) (fun hHeld => ?_)
    refine wpAnyH_take (i := 0) (oi := { dst := some 36, op := Op.move (Operand.tmp 0), type := 48, pos := "trie.go:107", after := #[], guard := none }) (v := ?_) rfl (by kernel_rfl) (by kernel_rfl) (by kernel_rfl) (fun _ _ _ h => h) (Or.inl ⟨by rfl, ?_⟩) hHeld ?_
    rotate_left
    · intro w hSw
      clear hSw
      go_simp
      try with_reducible rfl
    try simp only [Act.put, List.setIfInBounds_toArray, List.set_cons_zero, List.set_cons_succ]
    refine wpAnyH_take (i := 1) (oi := { dst := some 37, op := Op.nilCheck (Operand.tmp 36), type := 0, pos := "trie.go:107", after := #[{ on := 0, ground := Ground.data }], guard := none }) (v := ?_) rfl (by kernel_rfl) (by kernel_rfl) (by kernel_rfl) (fun _ _ _ h => h) (Or.inl ⟨by rfl, ?_⟩) hHeld ?_
    rotate_left
    · intro w hSw
      clear hSw
      go_simp
      try with_reducible rfl
    try simp only [Act.put, List.setIfInBounds_toArray, List.set_cons_zero, List.set_cons_succ]
    refine wpAnyH_take (i := 2) (oi := { dst := some 38, op := Op.fieldAddr 66 (Operand.tmp 37) 1, type := 0, pos := "trie.go:107", after := #[{ on := 1, ground := Ground.data }], guard := none }) (v := ?_) rfl (by kernel_rfl) (by kernel_rfl) (by kernel_rfl) (fun _ _ _ h => h) (Or.inl ⟨by rfl, ?_⟩) hHeld ?_
    rotate_left
    · intro w hSw
      clear hSw
      go_simp
      try with_reducible rfl
    try simp only [Act.put, List.setIfInBounds_toArray, List.set_cons_zero, List.set_cons_succ]
    refine wpAnyH_take (i := 3) (oi := { dst := some 39, op := Op.load 64 (Operand.tmp 38), type := 64, pos := "trie.go:107", after := #[{ on := 2, ground := Ground.data }], guard := none }) (v := ?_) rfl (by kernel_rfl) (by kernel_rfl) (by kernel_rfl) (fun _ _ _ h => h) (Or.inl ⟨by rfl, ?_⟩) hHeld ?_
    rotate_left
    · intro w hSw
      have t1' := HSS.out _ hSw
      go_simp
      try with_reducible rfl
    try simp only [Act.put, List.setIfInBounds_toArray, List.set_cons_zero, List.set_cons_succ]
    refine wpAnyH_take (i := 4) (oi := { dst := some 40, op := Op.move (Operand.tmp 8), type := 3, pos := "trie.go:107", after := #[], guard := none }) (v := ?_) rfl (by kernel_rfl) (by kernel_rfl) (by kernel_rfl) (fun _ _ _ h => h) (Or.inl ⟨by rfl, ?_⟩) hHeld ?_
    rotate_left
    · intro w hSw
      clear hSw
      go_simp
      try with_reducible rfl
    try simp only [Act.put, List.setIfInBounds_toArray, List.set_cons_zero, List.set_cons_succ]
    refine wpAnyH_take (i := 5) (oi := { dst := some 41, op := Op.binOp BinOp.add 3 (Operand.tmp 40) (Operand.const (Value.int IntKind.i64 1)) 3, type := 3, pos := "trie.go:107", after := #[{ on := 4, ground := Ground.data }], guard := none }) (v := .int .i64 (j : Nat)) rfl (by kernel_rfl) (by kernel_rfl) (by kernel_rfl) (fun _ _ _ h => h) (Or.inl ⟨by rfl, ?_⟩) hHeld ?_
    · intro w hSw
      clear hSw
      go_simp
      try exact hwj
    try simp only [Act.put, List.setIfInBounds_toArray, List.set_cons_zero, List.set_cons_succ]
    refine wpAnyH_take (i := 6) (oi := { dst := some 42, op := Op.slice 64 (Operand.tmp 39) (some (Operand.tmp 41)) none none, type := 64, pos := "trie.go:107", after := #[{ on := 3, ground := Ground.data }, { on := 5, ground := Ground.data }], guard := none }) (v := .slice D (R.length + 1 - j) (cap - j)) rfl (by kernel_rfl) (by kernel_rfl) (by kernel_rfl) (fun _ _ _ h => h) (Or.inl ⟨by rfl, ?_⟩) hHeld ?_
    · intro w hSw
      clear hSw
      go_simp
      try exact HDD.out.symm
    try simp only [Act.put, List.setIfInBounds_toArray, List.set_cons_zero, List.set_cons_succ]
    refine wpAnyH_take (i := 7) (oi := { dst := some 43, op := Op.move (Operand.tmp 0), type := 48, pos := "trie.go:107", after := #[], guard := none }) (v := ?_) rfl (by kernel_rfl) (by kernel_rfl) (by kernel_rfl) (fun _ _ _ h => h) (Or.inl ⟨by rfl, ?_⟩) hHeld ?_
    rotate_left
    · intro w hSw
      clear hSw
      go_simp
      try with_reducible rfl
    try simp only [Act.put, List.setIfInBounds_toArray, List.set_cons_zero, List.set_cons_succ]
    refine wpAnyH_take (i := 8) (oi := { dst := some 44, op := Op.nilCheck (Operand.tmp 43), type := 0, pos := "trie.go:107", after := #[{ on := 7, ground := Ground.data }], guard := none }) (v := ?_) rfl (by kernel_rfl) (by kernel_rfl) (by kernel_rfl) (fun _ _ _ h => h) (Or.inl ⟨by rfl, ?_⟩) hHeld ?_
    rotate_left
    · intro w hSw
      clear hSw
      go_simp
      try with_reducible rfl
    try simp only [Act.put, List.setIfInBounds_toArray, List.set_cons_zero, List.set_cons_succ]
    refine wpAnyH_take (i := 9) (oi := { dst := some 45, op := Op.fieldAddr 66 (Operand.tmp 44) 1, type := 0, pos := "trie.go:107", after := #[{ on := 8, ground := Ground.data }], guard := none }) (v := ?_) rfl (by kernel_rfl) (by kernel_rfl) (by kernel_rfl) (fun _ _ _ h => h) (Or.inl ⟨by rfl, ?_⟩) hHeld ?_
    rotate_left
    · intro w hSw
      clear hSw
      go_simp
      try with_reducible rfl
    try simp only [Act.put, List.setIfInBounds_toArray, List.set_cons_zero, List.set_cons_succ]
    refine wpAnyH_take (i := 10) (oi := { dst := some 46, op := Op.load 64 (Operand.tmp 45), type := 64, pos := "trie.go:107", after := #[{ on := 9, ground := Ground.data }], guard := none }) (v := ?_) rfl (by kernel_rfl) (by kernel_rfl) (by kernel_rfl) (fun _ _ _ h => h) (Or.inl ⟨by rfl, ?_⟩) hHeld ?_
    rotate_left
    · intro w hSw
      have t1' := HSS.out _ hSw
      go_simp
      try with_reducible rfl
    try simp only [Act.put, List.setIfInBounds_toArray, List.set_cons_zero, List.set_cons_succ]
    refine wpAnyH_take (i := 11) (oi := { dst := some 47, op := Op.move (Operand.tmp 8), type := 3, pos := "trie.go:107", after := #[], guard := none }) (v := ?_) rfl (by kernel_rfl) (by kernel_rfl) (by kernel_rfl) (fun _ _ _ h => h) (Or.inl ⟨by rfl, ?_⟩) hHeld ?_
    rotate_left
    · intro w hSw
      clear hSw
      go_simp
      try with_reducible rfl
    try simp only [Act.put, List.setIfInBounds_toArray, List.set_cons_zero, List.set_cons_succ]
    refine wpAnyH_take (i := 12) (oi := { dst := some 48, op := Op.slice 64 (Operand.tmp 46) (some (Operand.tmp 47)) none none, type := 64, pos := "trie.go:107", after := #[{ on := 10, ground := Ground.data }, { on := 11, ground := Ground.data }], guard := none }) (v := .slice (some ⟨g, i * 3, none⟩) (R.length + 1 - i) (cap - i)) rfl (by kernel_rfl) (by kernel_rfl) (by kernel_rfl) (fun _ _ _ h => h) (Or.inl ⟨by rfl, ?_⟩) hHeld ?_
    · intro w hSw
      clear hSw
      go_simp
      try rfl
    try simp only [Act.put, List.setIfInBounds_toArray, List.set_cons_zero, List.set_cons_succ]
    refine wpAnyH_ready (rs := [13]) (by kernel_rfl) (by simp) ?_
    refine AllReadyH.cons (o := { dst := some 49, op := Op.call { callee := Callee.builtin Builtin.copy, args := #[Operand.tmp 42, Operand.tmp 48], argTypes := #[64, 64] }, type := 3, pos := "trie.go:107", after := #[{ on := 6, ground := Ground.data }, { on := 12, ground := Ground.data }], guard := none }) rfl (fun K hK => ?_) AllReadyH.nil
    go_simp
    skip
    refine hK.out _ _ (HG9.out) (fun hHeld => ?_)
    clear hK K
    try simp only [Act.put, List.setIfInBounds_toArray, List.set_cons_zero, List.set_cons_succ]
    refine wpAnyH_done (by kernel_rfl) ?_ _
    clear hHeld e9 HSS HO6 hi1 hj1 hj0 hci hwj HDD
    have HC9 : Hid (CellsAt W9 bt #[.bool true, .slice (some ⟨g, 0, none⟩) (R.length + 1) cap, .int .i64 n] 66) := HC6.out.grownX HG9.out (fun e => hgt e.symm)
    have HP9 : Hid (CellsAt W9 w.heap.size #[.int .i64 p.fam, .int .u64 p.rd, .string p.addr, .int .i64 (p.len : Nat)] 30) := HP6.out.grownX HG9.out (fun e => hgp e.symm)
    have HSS : Hid (∀ w', GrownX (fun x => x = g) W9 w' → w'.cell? ⟨bt, 1, none⟩ = some (.slice (some ⟨g, 0, none⟩) (R.length + 1) cap) ∧ w'.cell? ⟨w.heap.size, 0, none⟩ = some (.int .i64 p.fam) ∧ w'.cell? ⟨w.heap.size, 1, none⟩ = some (.int .u64 p.rd)) := fun w' hw' =>
      ⟨((HC9.out.grownX hw' (fun e => hgt e.symm)).c 1).trans rfl, ((HP9.out.grownX hw' (fun e => hgp e.symm)).c 0).trans rfl, ((HP9.out.grownX hw' (fun e => hgp e.symm)).c 1).trans rfl⟩
    obtain ⟨u0, s0, f0⟩ := HO9.out.there (j := i * 3) (by omega)
    obtain ⟨u1, s1, f1⟩ := HO9.out.there (j := i * 3 + 1) (by omega)
    obtain ⟨u2, s2, f2⟩ := HO9.out.there (j := i * 3 + 2) (by omega)
    have hin : i < R.length + 1 := by omega
    have hini : (i : Int) < (R.length : Int) + 1 := by omega
    go_wp2_with fail
    refine wp_region_held_drew (S := fun w' => GrownX (fun x => x = g) W9 w') (by kernel_rfl) (GrownX.of_below (below_drewN (Below.refl _ _) 1)) (fun hHeld => ?_)
    refine wpAnyH_take (i := 0) (oi := { dst := some 50, op := Op.move (Operand.tmp 0), type := 48, pos := "trie.go:108", after := #[], guard := none }) (v := ?_) rfl (by kernel_rfl) (by kernel_rfl) (by kernel_rfl) (fun _ _ _ h => h) (Or.inl ⟨by rfl, ?_⟩) hHeld ?_
    rotate_left
    · intro w hSw
      clear hSw
      go_simp
      try with_reducible rfl
    try simp only [Act.put, List.setIfInBounds_toArray, List.set_cons_zero, List.set_cons_succ]
    refine wpAnyH_take (i := 1) (oi := { dst := some 51, op := Op.nilCheck (Operand.tmp 50), type := 0, pos := "trie.go:108", after := #[{ on := 0, ground := Ground.data }], guard := none }) (v := ?_) rfl (by kernel_rfl) (by kernel_rfl) (by kernel_rfl) (fun _ _ _ h => h) (Or.inl ⟨by rfl, ?_⟩) hHeld ?_
    rotate_left
    · intro w hSw
      clear hSw
      go_simp
      try with_reducible rfl
    try simp only [Act.put, List.setIfInBounds_toArray, List.set_cons_zero, List.set_cons_succ]
    refine wpAnyH_take (i := 2) (oi := { dst := some 52, op := Op.fieldAddr 66 (Operand.tmp 51) 1, type := 0, pos := "trie.go:108", after := #[{ on := 1, ground := Ground.data }], guard := none }) (v := ?_) rfl (by kernel_rfl) (by kernel_rfl) (by kernel_rfl) (fun _ _ _ h => h) (Or.inl ⟨by rfl, ?_⟩) hHeld ?_
    rotate_left
    · intro w hSw
      clear hSw
      go_simp
      try with_reducible rfl
    try simp only [Act.put, List.setIfInBounds_toArray, List.set_cons_zero, List.set_cons_succ]
    refine wpAnyH_take (i := 3) (oi := { dst := some 53, op := Op.load 64 (Operand.tmp 52), type := 64, pos := "trie.go:108", after := #[{ on := 2, ground := Ground.data }], guard := none }) (v := ?_) rfl (by kernel_rfl) (by kernel_rfl) (by kernel_rfl) (fun _ _ _ h => h) (Or.inl ⟨by rfl, ?_⟩) hHeld ?_
    rotate_left
    · intro w hSw
      obtain ⟨t1', p0', p1'⟩ := HSS.out _ hSw
      go_simp
      try with_reducible rfl
    try simp only [Act.put, List.setIfInBounds_toArray, List.set_cons_zero, List.set_cons_succ]
    refine wpAnyH_take (i := 4) (oi := { dst := some 54, op := Op.move (Operand.tmp 8), type := 3, pos := "trie.go:108", after := #[], guard := none }) (v := ?_) rfl (by kernel_rfl) (by kernel_rfl) (by kernel_rfl) (fun _ _ _ h => h) (Or.inl ⟨by rfl, ?_⟩) hHeld ?_
    rotate_left
    · intro w hSw
      clear hSw
      go_simp
      try with_reducible rfl
    try simp only [Act.put, List.setIfInBounds_toArray, List.set_cons_zero, List.set_cons_succ]
    refine wpAnyH_take (i := 5) (oi := { dst := some 55, op := Op.fieldAddr 30 (Operand.tmp 4) 0, type := 0, pos := "trie.go:108", after := #[], guard := none }) (v := ?_) rfl (by kernel_rfl) (by kernel_rfl) (by kernel_rfl) (fun _ _ _ h => h) (Or.inl ⟨by rfl, ?_⟩) hHeld ?_
    rotate_left
    · intro w hSw
      clear hSw
      go_simp
      try with_reducible rfl
    try simp only [Act.put, List.setIfInBounds_toArray, List.set_cons_zero, List.set_cons_succ]
    refine wpAnyH_take (i := 6) (oi := { dst := some 56, op := Op.load 3 (Operand.tmp 55), type := 3, pos := "trie.go:108", after := #[{ on := 5, ground := Ground.data }], guard := none }) (v := ?_) rfl (by kernel_rfl) (by kernel_rfl) (by kernel_rfl) (fun _ _ _ h => h) (Or.inl ⟨by rfl, ?_⟩) hHeld ?_
    rotate_left
    · intro w hSw
      obtain ⟨t1', p0', p1'⟩ := HSS.out _ hSw
      go_simp
      try with_reducible rfl
    try simp only [Act.put, List.setIfInBounds_toArray, List.set_cons_zero, List.set_cons_succ]
    refine wpAnyH_take (i := 7) (oi := { dst := some 57, op := Op.fieldAddr 30 (Operand.tmp 4) 1, type := 0, pos := "trie.go:108", after := #[], guard := none }) (v := ?_) rfl (by kernel_rfl) (by kernel_rfl) (by kernel_rfl) (fun _ _ _ h => h) (Or.inl ⟨by rfl, ?_⟩) hHeld ?_
    rotate_left
    · intro w hSw
      clear hSw
      go_simp
      try with_reducible rfl
    try simp only [Act.put, List.setIfInBounds_toArray, List.set_cons_zero, List.set_cons_succ]
    refine wpAnyH_take (i := 8) (oi := { dst := some 58, op := Op.load 28 (Operand.tmp 57), type := 28, pos := "trie.go:108", after := #[{ on := 7, ground := Ground.data }], guard := none }) (v := ?_) rfl (by kernel_rfl) (by kernel_rfl) (by kernel_rfl) (fun _ _ _ h => h) (Or.inl ⟨by rfl, ?_⟩) hHeld ?_
    rotate_left
    · intro w hSw
      obtain ⟨t1', p0', p1'⟩ := HSS.out _ hSw
      go_simp
      try with_reducible rfl
    try simp only [Act.put, List.setIfInBounds_toArray, List.set_cons_zero, List.set_cons_succ]
    refine wpAnyH_take (i := 9) (oi := { dst := some 59, op := Op.build 70 #[(0, Operand.tmp 56), (1, Operand.tmp 58)], type := 70, pos := "trie.go:108", after := #[{ on := 6, ground := Ground.data }, { on := 8, ground := Ground.data }], guard := none }) (v := ?_) rfl (by kernel_rfl) (by kernel_rfl) (by kernel_rfl) (fun _ _ _ h => h) (Or.inl ⟨by rfl, ?_⟩) hHeld ?_
    rotate_left
    · intro w hSw
      clear hSw
      go_simp
      try with_reducible rfl
    try simp only [Act.put, List.setIfInBounds_toArray, List.set_cons_zero, List.set_cons_succ]
    refine wpAnyH_take (i := 10) (oi := { dst := some 60, op := Op.indexAddr 64 (Operand.tmp 53) (Operand.tmp 54), type := 0, pos := "trie.go:108", after := #[{ on := 3, ground := Ground.data }, { on := 4, ground := Ground.data }, { on := 0, ground := Ground.phase }, { on := 1, ground := Ground.phase }, { on := 2, ground := Ground.phase }, { on := 3, ground := Ground.phase }, { on := 4, ground := Ground.phase }, { on := 5, ground := Ground.phase }, { on := 6, ground := Ground.phase }, { on := 7, ground := Ground.phase }, { on := 8, ground := Ground.phase }, { on := 9, ground := Ground.phase }], guard := none }) (v := ?_) rfl (by kernel_rfl) (by kernel_rfl) (by kernel_rfl) (fun _ _ _ h => h) (Or.inl ⟨by rfl, ?_⟩) hHeld ?_
    rotate_left
    · intro w hSw
      clear hSw
      go_simp
      try with_reducible rfl
    try simp only [Act.put, List.setIfInBounds_toArray, List.set_cons_zero, List.set_cons_succ]
    refine wpAnyH_ready (rs := [11]) (by kernel_rfl) (by simp) ?_
    refine AllReadyH.cons (o := { dst := none, op := Op.store 70 (Operand.tmp 60) (Operand.tmp 59), type := 0, pos := "trie.go:108", after := #[{ on := 10, ground := Ground.data }, { on := 9, ground := Ground.data }, { on := 0, ground := Ground.phase }, { on := 1, ground := Ground.phase }, { on := 2, ground := Ground.phase }, { on := 3, ground := Ground.phase }, { on := 4, ground := Ground.phase }, { on := 5, ground := Ground.phase }, { on := 6, ground := Ground.phase }, { on := 7, ground := Ground.phase }, { on := 8, ground := Ground.phase }, { on := 9, ground := Ground.phase }], guard := none }) rfl (fun K hK => ?_) AllReadyH.nil
    go_simp
    skip
    refine hK.out _ _ (keep3 _ _ _ _ _ _ _ _) (fun hHeld => ?_)
    clear hK K
    try simp only [Act.put, List.setIfInBounds_toArray, List.set_cons_zero, List.set_cons_succ]
    refine wpAnyH_done (by kernel_rfl) ?_ _

    clear hHeld s0 s1 s2 f0 f1 f2 HSS
    have HO10 : Hid (OwnM ((((W9.setCell ⟨g, i * 3, none⟩ (.int .i64 p.fam)).setCell ⟨g, i * 3 + 1, none⟩ (.int .u64 p.rd)).setCell ⟨g, i * 3 + 2, none⟩ (.pointer none)).drew) base 70 3 (.slice (some ⟨g, 0, none⟩) (R.length + 1) cap) (R.length + 1) (flatR (R.take i ++ (⟨p.fam, p.rd, none, [], .nil⟩ : Rt) :: R.drop i))) := by
      have h9 := (((HO9.out.cellm (j := i * 3) (by omega) (.int .i64 p.fam)).cellm (j := i * 3 + 1) (by omega) (.int .u64 p.rd)).cellm (j := i * 3 + 2) (by omega) (.pointer none)).drew
      rw [flatR_put R i hil2 ⟨p.fam, p.rd, none, [], .nil⟩ _ rfl _ _ _ rfl] at h9
      exact h9
    have hg10 : W9.grownBy ((((W9.setCell ⟨g, i * 3, none⟩ (.int .i64 p.fam)).setCell ⟨g, i * 3 + 1, none⟩ (.int .u64 p.rd)).setCell ⟨g, i * 3 + 2, none⟩ (.pointer none)).drew) (some g) :=
      grown_below (grown_trans (grown_trans (setCell_row _ _ _ _) (setCell_row _ _ _ _)) (setCell_row _ _ _ _)) (below_drewN (Below.refl _ _) 1)
    generalize (((W9.setCell ⟨g, i * 3, none⟩ (.int .i64 p.fam)).setCell ⟨g, i * 3 + 1, none⟩ (.int .u64 p.rd)).setCell ⟨g, i * 3 + 2, none⟩ (.pointer none)).drew = V10 at HO10 hg10 ⊢
    have HC10 := HC9.out.row hg10 (fun e => hgt e.symm)
    have HP10 : Hid (CellsAt V10 w.heap.size #[.int .i64 p.fam, .int .u64 p.rd, .string p.addr, .int .i64 (p.len : Nat)] 30) := HP9.out.row hg10 (fun e => hgp e.symm)
    have HG10 : GrownX (fun x => x = bt ∨ (Value.slice A R.length c).ownBlock = some x) w2 V10 := GrownX.trans2 (HGX6.out.trans2 HG9.out (fun x hx => by
      rcases HAT.out with e | e
      · exact Or.inl (Or.inr (by rw [← e, hx]; rfl))
      · exact Or.inr (e x (by rw [hx]; rfl)))) (GrownX.of_row (X := fun x => x = g) hg10 rfl) (fun x hx => by
      rcases HAT.out with e | e
      · exact Or.inl (Or.inr (by rw [← e, hx]; rfl))
      · exact Or.inr (e x (by rw [hx]; rfl)))
    have HL10 := Lib.hid (TrieAt.put HT2.out HF.out hri2.out HG10 HC10 HO10.out HAT.out)
    have HRP := Lib.hid (fun q x => rmem_put (R := R) (i := i) (f := p.fam) (d := p.rd) q x)
    obtain ⟨r, hr, hrf, hrd⟩ : ∃ r, (R.take i ++ (⟨p.fam, p.rd, none, [], .nil⟩ : Rt) :: R.drop i)[i]? = some r ∧ r.fam = p.fam ∧ r.rd = p.rd := ⟨⟨p.fam, p.rd, none, [], .nil⟩, by
      rw [List.getElem?_append_right (by rw [List.length_take]; omega), List.length_take, show i - min i R.length = 0 by omega]
      rfl, rfl, rfl⟩
    generalize R.take i ++ (⟨p.fam, p.rd, none, [], .nil⟩ : Rt) :: R.drop i = R2 at HL10 HRP hr
    generalize Value.slice (some ⟨g, 0, none⟩) (R.length + 1) cap = v2 at HL10
    have HT10 := Lib.hid HL10.out.t
    have HNZ : Hid (¬ trX bt v2 R2 w.heap.size) := fun hx => by
      rcases HL10.out.s _ hx with k | k
      · have := HT.out.lt _ k
        omega
      · omega
    clear HC10 HG10 hg10 HO10 HO9 HG9 HC9 HP9 HGX6 HC6 HP6 HAT hgt hgp hgl hnc hcm hin hini hi0 hz0 hz1 hz2 h2
    obtain ⟨g, cap, hv, hgl, hnc, hcm, hil, hgt, hgs, r0, r1, r2, zr⟩ := HT10.out.at_ hr
    subst hv
    have h2 := HT10.out.two
    obtain ⟨t0, t1, t2, _⟩ := HT10.out.c3
    obtain ⟨p0, p1, p2, p3, _⟩ := c4_at HP10.out
    have hrm := List.mem_of_getElem? hr
    have HG : Hid (r.t.Good p.fam p.rd (fun _ => True)) := by
      have := HT10.out.g r hrm
      rw [hrf, hrd] at this
      exact this
    have HTr := Lib.hid (HT10.out.t r hrm)
    have HRM := Lib.hid (fun A S => rmem_laid (A' := A) (S' := S) (N := fun q x => q = p ∧ x = u) HT10.out.ord HT10.out.g hr hrf hrd (fun q x h => h.1) (set_mem (z := 0) HPO.out rfl rfl HG.out))
    have HGD : Hid ((r.t.set 0 p u).Good r.fam r.rd (fun _ => True)) := by
      rw [hrf, hrd]
      exact set_good HPO.out rfl rfl HG.out trivial (fun _ _ _ => trivial)
    have HXX : Hid (∀ w', GrownX (fun x => x ∈ r.S ∨ x = g) V10 w' → w'.cell? ⟨bt, 1, none⟩ = some (.slice (some ⟨g, 0, none⟩) R2.length cap) ∧ w'.cell? ⟨w.heap.size, 0, none⟩ = some (.int .i64 p.fam) ∧ w'.cell? ⟨w.heap.size, 1, none⟩ = some (.int .u64 p.rd) ∧ w'.cell? ⟨w.heap.size, 2, none⟩ = some (.string p.addr) ∧ w'.cell? ⟨w.heap.size, 3, none⟩ = some (.int .i64 (p.len : Nat))) := fun w' hw' => by
      have hn0 : ¬ (w.heap.size ∈ r.S ∨ w.heap.size = g) := fun hx => HNZ.out (hx.elim (fun k => Or.inr (Or.inr ⟨r, hrm, k⟩)) (fun e => Or.inr (Or.inl (by rw [e]; rfl))))
      have hbb : ¬ (bt ∈ r.S ∨ bt = g) := fun hx => hx.elim (HT10.out.nt r hrm) (fun e => hgt e.symm)
      obtain ⟨q0, q1, q2, q3, _⟩ := c4_at (HP10.out.grownX hw' hn0)
      exact ⟨((HT10.out.c.grownX hw' hbb).c 1).trans rfl, q0, q1, q2, q3⟩
    have HRR := Lib.hid hr
    unfold maxLen at hcm
    clear hr hrm hrf hrd
    go_wp2_with fail
    refine wp_region_held_drew (S := fun w' => GrownX (fun x => x ∈ r.S ∨ x = g) V10 w') (by kernel_rfl) (GrownX.of_below (below_drewN (Below.refl _ _) 1)) (fun hHeld => ?_)
    refine wpAnyH_take (i := 0) (oi := { dst := some 62, op := Op.move (Operand.tmp 0), type := 48, pos := "trie.go:111", after := #[], guard := none }) (v := ?_) rfl (by kernel_rfl) (by kernel_rfl) (by kernel_rfl) (fun _ _ _ h => h) (Or.inl ⟨by rfl, ?_⟩) hHeld ?_
    rotate_left
    · intro w hSw
      clear hSw
      go_simp
      try with_reducible rfl
    try simp only [Act.put, List.setIfInBounds_toArray, List.set_cons_zero, List.set_cons_succ]
    refine wpAnyH_take (i := 1) (oi := { dst := some 63, op := Op.nilCheck (Operand.tmp 62), type := 0, pos := "trie.go:111", after := #[{ on := 0, ground := Ground.data }], guard := none }) (v := ?_) rfl (by kernel_rfl) (by kernel_rfl) (by kernel_rfl) (fun _ _ _ h => h) (Or.inl ⟨by rfl, ?_⟩) hHeld ?_
    rotate_left
    · intro w hSw
      clear hSw
      go_simp
      try with_reducible rfl
    try simp only [Act.put, List.setIfInBounds_toArray, List.set_cons_zero, List.set_cons_succ]
    refine wpAnyH_take (i := 2) (oi := { dst := some 64, op := Op.fieldAddr 66 (Operand.tmp 63) 1, type := 0, pos := "trie.go:111", after := #[{ on := 1, ground := Ground.data }], guard := none }) (v := ?_) rfl (by kernel_rfl) (by kernel_rfl) (by kernel_rfl) (fun _ _ _ h => h) (Or.inl ⟨by rfl, ?_⟩) hHeld ?_
    rotate_left
    · intro w hSw
      clear hSw
      go_simp
      try with_reducible rfl
    try simp only [Act.put, List.setIfInBounds_toArray, List.set_cons_zero, List.set_cons_succ]
    refine wpAnyH_take (i := 3) (oi := { dst := some 65, op := Op.load 64 (Operand.tmp 64), type := 64, pos := "trie.go:111", after := #[{ on := 2, ground := Ground.data }], guard := none }) (v := ?_) rfl (by kernel_rfl) (by kernel_rfl) (by kernel_rfl) (fun _ _ _ h => h) (Or.inl ⟨by rfl, ?_⟩) hHeld ?_
    rotate_left
    · intro w hSw
      obtain ⟨t1', p0', p1', p2', p3'⟩ := HXX.out _ hSw
      go_simp
      try with_reducible rfl
    try simp only [Act.put, List.setIfInBounds_toArray, List.set_cons_zero, List.set_cons_succ]
    refine wpAnyH_take (i := 4) (oi := { dst := some 66, op := Op.move (Operand.tmp 8), type := 3, pos := "trie.go:111", after := #[], guard := none }) (v := ?_) rfl (by kernel_rfl) (by kernel_rfl) (by kernel_rfl) (fun _ _ _ h => h) (Or.inl ⟨by rfl, ?_⟩) hHeld ?_
    rotate_left
    · intro w hSw
      clear hSw
      go_simp
      try with_reducible rfl
    try simp only [Act.put, List.setIfInBounds_toArray, List.set_cons_zero, List.set_cons_succ]
    refine wpAnyH_take (i := 5) (oi := { dst := some 67, op := Op.move (Operand.tmp 0), type := 48, pos := "trie.go:111", after := #[], guard := none }) (v := ?_) rfl (by kernel_rfl) (by kernel_rfl) (by kernel_rfl) (fun _ _ _ h => h) (Or.inl ⟨by rfl, ?_⟩) hHeld ?_
    rotate_left
    · intro w hSw
      clear hSw
      go_simp
      try with_reducible rfl
    try simp only [Act.put, List.setIfInBounds_toArray, List.set_cons_zero, List.set_cons_succ]
    refine wpAnyH_take (i := 6) (oi := { dst := some 68, op := Op.nilCheck (Operand.tmp 67), type := 0, pos := "trie.go:111", after := #[{ on := 5, ground := Ground.data }], guard := none }) (v := ?_) rfl (by kernel_rfl) (by kernel_rfl) (by kernel_rfl) (fun _ _ _ h => h) (Or.inl ⟨by rfl, ?_⟩) hHeld ?_
    rotate_left
    · intro w hSw
      clear hSw
      go_simp
      try with_reducible rfl
    try simp only [Act.put, List.setIfInBounds_toArray, List.set_cons_zero, List.set_cons_succ]
    refine wpAnyH_take (i := 7) (oi := { dst := some 69, op := Op.fieldAddr 66 (Operand.tmp 68) 1, type := 0, pos := "trie.go:111", after := #[{ on := 6, ground := Ground.data }], guard := none }) (v := ?_) rfl (by kernel_rfl) (by kernel_rfl) (by kernel_rfl) (fun _ _ _ h => h) (Or.inl ⟨by rfl, ?_⟩) hHeld ?_
    rotate_left
    · intro w hSw
      clear hSw
      go_simp
      try with_reducible rfl
    try simp only [Act.put, List.setIfInBounds_toArray, List.set_cons_zero, List.set_cons_succ]
    refine wpAnyH_take (i := 8) (oi := { dst := some 70, op := Op.load 64 (Operand.tmp 69), type := 64, pos := "trie.go:111", after := #[{ on := 7, ground := Ground.data }], guard := none }) (v := ?_) rfl (by kernel_rfl) (by kernel_rfl) (by kernel_rfl) (fun _ _ _ h => h) (Or.inl ⟨by rfl, ?_⟩) hHeld ?_
    rotate_left
    · intro w hSw
      obtain ⟨t1', p0', p1', p2', p3'⟩ := HXX.out _ hSw
      go_simp
      try with_reducible rfl
    try simp only [Act.put, List.setIfInBounds_toArray, List.set_cons_zero, List.set_cons_succ]
    refine wpAnyH_take (i := 9) (oi := { dst := some 71, op := Op.move (Operand.tmp 8), type := 3, pos := "trie.go:111", after := #[], guard := none }) (v := ?_) rfl (by kernel_rfl) (by kernel_rfl) (by kernel_rfl) (fun _ _ _ h => h) (Or.inl ⟨by rfl, ?_⟩) hHeld ?_
    rotate_left
    · intro w hSw
      clear hSw
      go_simp
      try with_reducible rfl
    try simp only [Act.put, List.setIfInBounds_toArray, List.set_cons_zero, List.set_cons_succ]
    refine wpAnyH_take (i := 10) (oi := { dst := some 72, op := Op.indexAddr 64 (Operand.tmp 70) (Operand.tmp 71), type := 0, pos := "trie.go:111", after := #[{ on := 8, ground := Ground.data }, { on := 9, ground := Ground.data }], guard := none }) (v := ?_) rfl (by kernel_rfl) (by kernel_rfl) (by kernel_rfl) (fun _ _ _ h => h) (Or.inl ⟨by rfl, ?_⟩) hHeld ?_
    rotate_left
    · intro w hSw
      clear hSw
      go_simp
      try with_reducible rfl
    try simp only [Act.put, List.setIfInBounds_toArray, List.set_cons_zero, List.set_cons_succ]
    refine wpAnyH_take (i := 11) (oi := { dst := some 73, op := Op.fieldAddr 70 (Operand.tmp 72) 2, type := 0, pos := "trie.go:111", after := #[{ on := 10, ground := Ground.data }], guard := none }) (v := ?_) rfl (by kernel_rfl) (by kernel_rfl) (by kernel_rfl) (fun _ _ _ h => h) (Or.inl ⟨by rfl, ?_⟩) hHeld ?_
    rotate_left
    · intro w hSw
      clear hSw
      go_simp
      try with_reducible rfl
    try simp only [Act.put, List.setIfInBounds_toArray, List.set_cons_zero, List.set_cons_succ]
    refine wpAnyH_take (i := 13) (oi := { dst := some 75, op := Op.load 30 (Operand.tmp 4), type := 30, pos := "trie.go:111", after := #[], guard := none }) (v := ?_) rfl (by kernel_rfl) (by kernel_rfl) (by kernel_rfl) (fun _ _ _ h => h) (Or.inl ⟨by rfl, ?_⟩) hHeld ?_
    rotate_left
    · intro w hSw
      obtain ⟨t1', p0', p1', p2', p3'⟩ := HXX.out _ hSw
      go_simp
      try with_reducible rfl
    try simp only [Act.put, List.setIfInBounds_toArray, List.set_cons_zero, List.set_cons_succ]
    refine wpAnyH_take (i := 14) (oi := { dst := some 76, op := Op.move (Operand.tmp 2), type := 3, pos := "trie.go:111", after := #[], guard := none }) (v := ?_) rfl (by kernel_rfl) (by kernel_rfl) (by kernel_rfl) (fun _ _ _ h => h) (Or.inl ⟨by rfl, ?_⟩) hHeld ?_
    rotate_left
    · intro w hSw
      clear hSw
      go_simp
      try with_reducible rfl
    try simp only [Act.put, List.setIfInBounds_toArray, List.set_cons_zero, List.set_cons_succ]
    refine wpAnyH_ready (rs := [12]) (by kernel_rfl) (by simp) ?_
    refine AllReadyH.cons (o := { dst := some 74, op := Op.load 68 (Operand.tmp 73), type := 68, pos := "trie.go:111", after := #[{ on := 11, ground := Ground.data }], guard := none }) rfl (fun K hK => ?_) AllReadyH.nil
    go_simp
    skip
    refine hK.out _ _ (hHeld) (fun hHeld => ?_)
    clear hK K
    try simp only [Act.put, List.setIfInBounds_toArray, List.set_cons_zero, List.set_cons_succ]
    refine wpAnyH_ready (rs := [15]) (by kernel_rfl) (by simp) ?_
    refine AllReadyH.cons (o := { dst := some 77, op := Op.call { callee := Callee.value (Operand.func 32), args := #[Operand.tmp 74, Operand.tmp 75, Operand.tmp 76], argTypes := #[68, 30, 3] }, type := 71, pos := "trie.go:111", after := #[{ on := 12, ground := Ground.data }, { on := 13, ground := Ground.data }, { on := 14, ground := Ground.data }], guard := none }) rfl (fun K hK => ?_) AllReadyH.nil
    go_simp
    refine (HSET.out r.t r.S _ _ HG.out (HTr.out.below' (below_drewN (Below.refl _ _) 1))).mono ?_
    rintro e w9 ⟨q9, S9, rfl, hs9⟩
    obtain ⟨A9, rfl⟩ := hs9.t.form
    obtain ⟨hL9, j9, y9⟩ := HT10.out.laid HRR.out (hs9.from_ (below_drewN (Below.refl _ _) 1)) HGD.out
    have HL9 := Lib.hid hL9
    have HG9 := Lib.hid (hs9.g.mono (Y := fun x => x ∈ r.S ∨ x = g) (fun x hx => Or.inl hx))
    clear hs9 hL9
    go_wp2_with fail
    refine hK.out _ _ (hHeld.trans HG9.out) (fun hHeld => ?_)
    clear hK K
    try simp only [Act.put, List.setIfInBounds_toArray, List.set_cons_zero, List.set_cons_succ]
    refine wpAnyH_take (i := 16) (oi := { dst := some 61, op := Op.move (Operand.tmp 77), type := 71, pos := "trie.go:111", after := #[{ on := 15, ground := Ground.data }], guard := none }) (v := ?_) rfl (by kernel_rfl) (by kernel_rfl) (by kernel_rfl) (fun _ _ _ h => h) (Or.inl ⟨by rfl, ?_⟩) hHeld ?_
    rotate_left
    · intro w hSw
      clear hSw
      go_simp
      try with_reducible rfl
    try simp only [Act.put, List.setIfInBounds_toArray, List.set_cons_zero, List.set_cons_succ]
    refine wpAnyH_take (i := 17) (oi := { dst := some 78, op := Op.extract (Operand.tmp 61) 0, type := 68, pos := "trie.go:111", after := #[{ on := 16, ground := Ground.data }], guard := none }) (v := ?_) rfl (by kernel_rfl) (by kernel_rfl) (by kernel_rfl) (fun _ _ _ h => h) (Or.inl ⟨by rfl, ?_⟩) hHeld ?_
    rotate_left
    · intro w hSw
      clear hSw
      go_simp
      try with_reducible rfl
    try simp only [Act.put, List.setIfInBounds_toArray, List.set_cons_zero, List.set_cons_succ]
    refine wpAnyH_take (i := 18) (oi := { dst := some 79, op := Op.extract (Operand.tmp 61) 1, type := 4, pos := "trie.go:111", after := #[{ on := 16, ground := Ground.data }, { on := 21, ground := Ground.gcOnly Departure.lateStores }], guard := none }) (v := ?_) rfl (by kernel_rfl) (by kernel_rfl) (by kernel_rfl) (fun _ _ _ h => h) (Or.inl ⟨by rfl, ?_⟩) hHeld ?_
    rotate_left
    · intro w hSw
      clear hSw
      go_simp
      try with_reducible rfl
    try simp only [Act.put, List.setIfInBounds_toArray, List.set_cons_zero, List.set_cons_succ]
    refine wpAnyH_take (i := 19) (oi := { dst := some 80, op := Op.indexAddr 64 (Operand.tmp 65) (Operand.tmp 66), type := 0, pos := "trie.go:111", after := #[{ on := 3, ground := Ground.data }, { on := 4, ground := Ground.data }, { on := 0, ground := Ground.phase }, { on := 1, ground := Ground.phase }, { on := 2, ground := Ground.phase }, { on := 3, ground := Ground.phase }, { on := 4, ground := Ground.phase }, { on := 5, ground := Ground.phase }, { on := 6, ground := Ground.phase }, { on := 7, ground := Ground.phase }, { on := 8, ground := Ground.phase }, { on := 9, ground := Ground.phase }, { on := 10, ground := Ground.phase }, { on := 11, ground := Ground.phase }, { on := 12, ground := Ground.phase }, { on := 13, ground := Ground.phase }, { on := 14, ground := Ground.phase }, { on := 15, ground := Ground.phase }, { on := 16, ground := Ground.phase }, { on := 17, ground := Ground.phase }, { on := 18, ground := Ground.textOnly Departure.lateStores }], guard := none }) (v := ?_) rfl (by kernel_rfl) (by kernel_rfl) (by kernel_rfl) (fun _ _ _ h => h) (Or.inl ⟨by rfl, ?_⟩) hHeld ?_
    rotate_left
    · intro w hSw
      clear hSw
      go_simp
      try with_reducible rfl
    try simp only [Act.put, List.setIfInBounds_toArray, List.set_cons_zero, List.set_cons_succ]
    refine wpAnyH_take (i := 20) (oi := { dst := some 81, op := Op.fieldAddr 70 (Operand.tmp 80) 2, type := 0, pos := "trie.go:111", after := #[{ on := 19, ground := Ground.data }, { on := 0, ground := Ground.phase }, { on := 1, ground := Ground.phase }, { on := 2, ground := Ground.phase }, { on := 3, ground := Ground.phase }, { on := 4, ground := Ground.phase }, { on := 5, ground := Ground.phase }, { on := 6, ground := Ground.phase }, { on := 7, ground := Ground.phase }, { on := 8, ground := Ground.phase }, { on := 9, ground := Ground.phase }, { on := 10, ground := Ground.phase }, { on := 11, ground := Ground.phase }, { on := 12, ground := Ground.phase }, { on := 13, ground := Ground.phase }, { on := 14, ground := Ground.phase }, { on := 15, ground := Ground.phase }, { on := 16, ground := Ground.phase }, { on := 17, ground := Ground.phase }, { on := 18, ground := Ground.textOnly Departure.lateStores }], guard := none }) (v := ?_) rfl (by kernel_rfl) (by kernel_rfl) (by kernel_rfl) (fun _ _ _ h => h) (Or.inl ⟨by rfl, ?_⟩) hHeld ?_
    rotate_left
    · intro w hSw
      clear hSw
      go_simp
      try with_reducible rfl
    try simp only [Act.put, List.setIfInBounds_toArray, List.set_cons_zero, List.set_cons_succ]
    refine wpAnyH_ready (rs := [21]) (by kernel_rfl) (by simp) ?_
    refine AllReadyH.cons (o := { dst := none, op := Op.store 68 (Operand.tmp 81) (Operand.tmp 78), type := 0, pos := "trie.go:111", after := #[{ on := 20, ground := Ground.data }, { on := 17, ground := Ground.data }, { on := 15, ground := Ground.chain }, { on := 0, ground := Ground.phase }, { on := 1, ground := Ground.phase }, { on := 2, ground := Ground.phase }, { on := 3, ground := Ground.phase }, { on := 4, ground := Ground.phase }, { on := 5, ground := Ground.phase }, { on := 6, ground := Ground.phase }, { on := 7, ground := Ground.phase }, { on := 8, ground := Ground.phase }, { on := 9, ground := Ground.phase }, { on := 10, ground := Ground.phase }, { on := 11, ground := Ground.phase }, { on := 12, ground := Ground.phase }, { on := 13, ground := Ground.phase }, { on := 14, ground := Ground.phase }, { on := 15, ground := Ground.phase }, { on := 16, ground := Ground.phase }, { on := 17, ground := Ground.phase }, { on := 18, ground := Ground.textOnly Departure.lateStores }], guard := none }) rfl (fun K hK => ?_) AllReadyH.nil
    go_simp
    skip
    refine hK.out _ _ (hHeld.trans (GrownX.of_row (setCell_row _ _ _ _) (Or.inr rfl))) (fun hHeld => ?_)
    clear hK K
    try simp only [Act.put, List.setIfInBounds_toArray, List.set_cons_zero, List.set_cons_succ]
    refine wpAnyH_take (i := 22) (oi := { dst := some 10, op := Op.assign (Operand.tmp 79), type := 4, pos := "trie.go:111", after := #[{ on := 18, ground := Ground.data }, { on := 21, ground := Ground.chain }, { on := 0, ground := Ground.phase }, { on := 1, ground := Ground.phase }, { on := 2, ground := Ground.phase }, { on := 3, ground := Ground.phase }, { on := 4, ground := Ground.phase }, { on := 5, ground := Ground.phase }, { on := 6, ground := Ground.phase }, { on := 7, ground := Ground.phase }, { on := 8, ground := Ground.phase }, { on := 9, ground := Ground.phase }, { on := 10, ground := Ground.phase }, { on := 11, ground := Ground.phase }, { on := 12, ground := Ground.phase }, { on := 13, ground := Ground.phase }, { on := 14, ground := Ground.phase }, { on := 15, ground := Ground.phase }, { on := 16, ground := Ground.phase }, { on := 17, ground := Ground.phase }, { on := 18, ground := Ground.phase }, { on := 19, ground := Ground.phase }, { on := 20, ground := Ground.phase }, { on := 21, ground := Ground.phase }], guard := none }) (v := ?_) rfl (by kernel_rfl) (by kernel_rfl) (by kernel_rfl) (fun _ _ _ h => h) (Or.inl ⟨by rfl, ?_⟩) hHeld ?_
    rotate_left
    · intro w hSw
      clear hSw
      go_simp
      try with_reducible rfl
    try simp only [Act.put, List.setIfInBounds_toArray, List.set_cons_zero, List.set_cons_succ]
    refine wpAnyH_done (by kernel_rfl) ?_ _
    clear hHeld j9 y9
    obtain ⟨s0, s1, s2, ys1, ys2⟩ := HL9.out.t.c3
    generalize r.t.fresh p = fr
    cases fr
    · go_wp2_with fail
      go_ret
      exact ⟨_, _, _, rfl, (HL10.out.trans HL9.out).from_ HB2.out, fun q x => (HRM.out _ _ q x).trans (by rw [HRP.out q x])⟩
    · go_wp2_with fail
      go_ret
      exact ⟨_, _, _, rfl, (HL10.out.trans (HL9.out.count _)).from_ HB2.out, fun q x => (HRM.out _ _ q x).trans (by rw [HRP.out q x])⟩
end Go.Proofs.Ythnjepehiddogaa
