/-
  Contracts of (*Trie).Del and (*Ways).Del. Conditions: sizes.
-/
import Derived.Test.YthnjepehiddogaaTrW
set_option linter.unusedVariables false
set_option linter.unusedSimpArgs false
namespace Go.Proofs.Ythnjepehiddogaa
open Go.RowKit Go.MapKept

theorem rmem_none {R : List Rt} {p : Tp} {i : Nat} (hg : ∀ s ∈ R, s.t.Good s.fam s.rd (fun _ => True)) (h : RootIs R p i false) (x : Int) : ¬ RMem R p x := fun hm => longest_none hg h p x hm rfl rfl (cov.refl p)
theorem rmem_root {R : List Rt} {p : Tp} {i : Nat} {r : Rt} (ho : R.Pairwise fun a b => rlt a.fam a.rd b.fam b.rd) (hg : ∀ s ∈ R, s.t.Good s.fam s.rd (fun _ => True)) (hi : R[i]? = some r) (hf : r.fam = p.fam) (hd : r.rd = p.rd) (x : Int) : RMem R p x ↔ r.t.Mem p x := by
  constructor
  · rintro ⟨s, hs, hx⟩
    obtain ⟨j, hj⟩ := List.getElem?_of_mem hs
    by_cases hji : j = i
    · subst hji
      rw [hi] at hj
      cases hj
      exact hx
    · obtain ⟨_, k1, k2⟩ := (hg s hs).memf hx
      exact absurd ⟨k1.symm.trans hf.symm, k2.symm.trans hd.symm⟩ (other_root ho hi hj hji)
  · intro h
    exact ⟨r, List.mem_of_getElem? hi, h⟩
def TDelPost (w : World) (bt base : Nat) (v : Value) (R : List Rt) (p : Tp) (e : Ending) (w' : World) : Prop :=
  ∃ n' R' g, e = .returned (.bool g) ∧ Laid w bt base v R w' v n' R' ∧ (∀ q x, RMem R' q x ↔ q ≠ p ∧ RMem R q x) ∧ (g = true ↔ ∃ x, RMem R p x)
theorem TrieAt.still {w w' : World} {bt base : Nat} {v : Value} {n : Int} {R : List Rt} (h : TrieAt w bt base v n R) (hb : Below w.heap.size w w') : Laid w bt base v R w' v n R := ⟨h.below hb, GrownX.of_below hb, fun x hx => Or.inl hx⟩
set_option maxRecDepth 100000 in
set_option maxHeartbeats 4000000 in
theorem tdel_any (p : Tp) (hp : p.Ok) (bt base : Nat) (v : Value) (n : Int) (R : List Rt) (w : World) (h : TrieAt w bt base v n R) :
    Calls Try.prog 25 #[.pointer (some ⟨bt, 0, none⟩), p.v] w (TDelPost w bt base v R p) := by
  have hps := hp.small
  have HPO := Lib.hid hp
  have HT := Lib.hid h
  obtain ⟨t0, t1, t2, _⟩ := h.c3
  have hbt := h.c.lt
  have HRO := Lib.hid (fun (w1 : World) (hb : Below w.heap.size w w1) => root_any p bt base v n R w1 (h.below hb))
  have HCK := Lib.hid (fun w => check_any p.fam p.rd p.addr (p.len : Nat) w (by omega))
  rw [show prefC p.fam p.rd p.addr (p.len : Nat) = 0 from if_pos hp] at HCK
  have HDEL := Lib.hid (fun T S q w hg ht => del_any p hp T (fun _ => True) S q w hg ht)
  clear h hp
  unfold Tp.v at HRO HDEL ⊢
  go_enter Try.func25, Try.ntmps25
  go_wp2_with fail
  refine (tnone_any bt _ ((HT.out.below ((Below.refl _ _).alloc (Nat.le_refl _) _)).c3.1)).mono ?_
  rintro e w1 ⟨rfl, hw1⟩
  subst hw1
  go_wp2_with fail
  refine (HCK.out _).mono ?_
  rintro e w1 ⟨rfl, hb1⟩
  have HP1 : Hid (CellsAt w1 w.heap.size #[.int .i64 p.fam, .int .u64 p.rd, .string p.addr, .int .i64 (p.len : Nat)] 30) := (CellsAt.new w _ _).below hb1 (by simp)
  have HB1 : Hid (Below w.heap.size w w1) := by
    show Below _ _ _
    exact ((Below.refl _ _).alloc (Nat.le_refl _) _).trans (hb1.mono (by simp))
  clear hb1
  obtain ⟨p0, p1, p2, p3, _⟩ := c4_at HP1.out
  go_wp2_with fail
  refine (HRO.out _ HB1.out).mono ?_
  rintro e w2 ⟨i, b, rfl, hri, hb2⟩
  have HP2 : Hid (CellsAt w2 w.heap.size #[.int .i64 p.fam, .int .u64 p.rd, .string p.addr, .int .i64 (p.len : Nat)] 30) := HP1.out.below hb2 HP1.out.lt
  have HB2 : Hid (Below w.heap.size w w2) := HB1.out.trans (hb2.mono HB1.out.size)
  have HT2 : Hid (TrieAt w2 bt base v n R) := HT.out.below HB2.out
  clear hb2 HP1 HB1 p0 p1 p2 p3 t0 t1 t2 HRO HCK
  cases b with
  | false =>
    have HNO := Lib.hid (rmem_none HT.out.g hri)
    clear hri
    go_wp2_with fail
    go_ret
    exact ⟨n, R, false, rfl, HT.out.still HB2.out, fun q x => ⟨fun h => ⟨fun e => HNO.out x (e ▸ h), h⟩, fun h => h.2⟩, fun h => (by cases h), fun ⟨x, h⟩ => absurd h (HNO.out x)⟩
  | true =>
    obtain ⟨r, hr, hrf, hrd⟩ := hri
    obtain ⟨g, cap, hv, hgl, hnc, hcm, hil, hgt, hgs, r0, r1, r2, zr⟩ := HT2.out.at_ hr
    subst hv
    have h2 := HT2.out.two
    have hrm := List.mem_of_getElem? hr
    have HG : Hid (r.t.Good p.fam p.rd (fun _ => True)) := by
      have := HT.out.g r hrm
      rw [hrf, hrd] at this
      exact this
    have HTr := Lib.hid (HT2.out.t r hrm)
    have hdm := del_mem (z := 0) HPO.out rfl rfl HG.out
    have HRM := Lib.hid (fun A S => rmem_laid (A' := A) (S' := S) (T' := (r.t.del 0 p).1) (N := fun _ _ => False) HT2.out.ord HT2.out.g hr hrf hrd (fun q x h => h.elim) (fun q x => (hdm.1 q x).trans ⟨Or.inr, fun k => k.elim False.elim id⟩))
    have HGI : Hid ((r.t.del 0 p).2 = true ↔ ∃ x, RMem R p x) := hdm.2.trans ⟨fun ⟨x, k⟩ => ⟨x, (rmem_root HT2.out.ord HT2.out.g hr hrf hrd x).2 k⟩, fun ⟨x, k⟩ => ⟨x, (rmem_root HT2.out.ord HT2.out.g hr hrf hrd x).1 k⟩⟩
    have HGD : Hid ((r.t.del 0 p).1.Good r.fam r.rd (fun _ => True)) := by
      rw [hrf, hrd]
      exact del_good HG.out (fun _ _ _ _ _ => trivial)
    clear hdm
    have HXX : Hid (∀ w', GrownX (fun x => x ∈ r.S) w2 w' → w'.cell? ⟨bt, 1, none⟩ = some (.slice (some ⟨g, 0, none⟩) R.length cap) ∧ w'.cell? ⟨g, i * 3 + 2, none⟩ = some (.pointer r.A) ∧ w'.cell? ⟨w.heap.size, 0, none⟩ = some (.int .i64 p.fam) ∧ w'.cell? ⟨w.heap.size, 1, none⟩ = some (.int .u64 p.rd) ∧ w'.cell? ⟨w.heap.size, 2, none⟩ = some (.string p.addr) ∧ w'.cell? ⟨w.heap.size, 3, none⟩ = some (.int .i64 (p.len : Nat))) := fun w' hw' => by
      have hn0 : w.heap.size ∉ r.S := fun hx => Nat.lt_irrefl _ ((HT.out.t r hrm).lt _ hx)
      obtain ⟨q0, q1, q2, q3, _⟩ := c4_at (HP2.out.grownX hw' hn0)
      exact ⟨((HT2.out.c.grownX hw' (HT.out.nt r hrm)).c 1).trans rfl, (hw'.cell (p := ⟨g, i * 3 + 2, none⟩) hgl hgs).trans r2, q0, q1, q2, q3⟩
    have HRR := Lib.hid hr
    unfold maxLen at hcm
    clear hr hrm hrf hrd
    go_wp2_with fail
    refine wp_region_held_drew (S := fun w' => GrownX (fun x => x ∈ r.S) w2 w') (by kernel_rfl) (GrownX.of_below (below_drewN (Below.refl _ _) 1)) (fun hHeld => ?_)
    refine wpAnyH_take (i := 0) (oi := { dst := some 25, op := Op.move (Operand.tmp 0), type := 48, pos := "trie.go:183", after := #[], guard := none }) (v := ?_) rfl (by kernel_rfl) (by kernel_rfl) (by kernel_rfl) (fun _ _ _ h => h) (Or.inl ⟨by rfl, ?_⟩) hHeld ?_
    rotate_left
    · intro w hSw
      clear hSw
      go_simp
      try with_reducible rfl
    try simp only [Act.put, List.setIfInBounds_toArray, List.set_cons_zero, List.set_cons_succ]
    refine wpAnyH_take (i := 1) (oi := { dst := some 26, op := Op.nilCheck (Operand.tmp 25), type := 0, pos := "trie.go:183", after := #[{ on := 0, ground := Ground.data }], guard := none }) (v := ?_) rfl (by kernel_rfl) (by kernel_rfl) (by kernel_rfl) (fun _ _ _ h => h) (Or.inl ⟨by rfl, ?_⟩) hHeld ?_
    rotate_left
    · intro w hSw
      clear hSw
      go_simp
      try with_reducible rfl
    try simp only [Act.put, List.setIfInBounds_toArray, List.set_cons_zero, List.set_cons_succ]
    refine wpAnyH_take (i := 2) (oi := { dst := some 27, op := Op.fieldAddr 66 (Operand.tmp 26) 1, type := 0, pos := "trie.go:183", after := #[{ on := 1, ground := Ground.data }], guard := none }) (v := ?_) rfl (by kernel_rfl) (by kernel_rfl) (by kernel_rfl) (fun _ _ _ h => h) (Or.inl ⟨by rfl, ?_⟩) hHeld ?_
    rotate_left
    · intro w hSw
      clear hSw
      go_simp
      try with_reducible rfl
    try simp only [Act.put, List.setIfInBounds_toArray, List.set_cons_zero, List.set_cons_succ]
    refine wpAnyH_take (i := 3) (oi := { dst := some 28, op := Op.load 64 (Operand.tmp 27), type := 64, pos := "trie.go:183", after := #[{ on := 2, ground := Ground.data }], guard := none }) (v := ?_) rfl (by kernel_rfl) (by kernel_rfl) (by kernel_rfl) (fun _ _ _ h => h) (Or.inl ⟨by rfl, ?_⟩) hHeld ?_
    rotate_left
    · intro w hSw
      obtain ⟨t1', r2', p0', p1', p2', p3'⟩ := HXX.out _ hSw
      go_simp
      try with_reducible rfl
    try simp only [Act.put, List.setIfInBounds_toArray, List.set_cons_zero, List.set_cons_succ]
    refine wpAnyH_take (i := 4) (oi := { dst := some 29, op := Op.move (Operand.tmp 5), type := 3, pos := "trie.go:183", after := #[], guard := none }) (v := ?_) rfl (by kernel_rfl) (by kernel_rfl) (by kernel_rfl) (fun _ _ _ h => h) (Or.inl ⟨by rfl, ?_⟩) hHeld ?_
    rotate_left
    · intro w hSw
      clear hSw
      go_simp
      try with_reducible rfl
    try simp only [Act.put, List.setIfInBounds_toArray, List.set_cons_zero, List.set_cons_succ]
    refine wpAnyH_take (i := 5) (oi := { dst := some 30, op := Op.indexAddr 64 (Operand.tmp 28) (Operand.tmp 29), type := 0, pos := "trie.go:183", after := #[{ on := 3, ground := Ground.data }, { on := 4, ground := Ground.data }], guard := none }) (v := ?_) rfl (by kernel_rfl) (by kernel_rfl) (by kernel_rfl) (fun _ _ _ h => h) (Or.inl ⟨by rfl, ?_⟩) hHeld ?_
    rotate_left
    · intro w hSw
      clear hSw
      go_simp
      try with_reducible rfl
    try simp only [Act.put, List.setIfInBounds_toArray, List.set_cons_zero, List.set_cons_succ]
    refine wpAnyH_take (i := 6) (oi := { dst := some 31, op := Op.fieldAddr 70 (Operand.tmp 30) 2, type := 0, pos := "trie.go:183", after := #[{ on := 5, ground := Ground.data }], guard := none }) (v := ?_) rfl (by kernel_rfl) (by kernel_rfl) (by kernel_rfl) (fun _ _ _ h => h) (Or.inl ⟨by rfl, ?_⟩) hHeld ?_
    rotate_left
    · intro w hSw
      clear hSw
      go_simp
      try with_reducible rfl
    try simp only [Act.put, List.setIfInBounds_toArray, List.set_cons_zero, List.set_cons_succ]
    refine wpAnyH_take (i := 7) (oi := { dst := some 32, op := Op.load 68 (Operand.tmp 31), type := 68, pos := "trie.go:183", after := #[{ on := 6, ground := Ground.data }], guard := none }) (v := ?_) rfl (by kernel_rfl) (by kernel_rfl) (by kernel_rfl) (fun _ _ _ h => h) (Or.inl ⟨by rfl, ?_⟩) hHeld ?_
    rotate_left
    · intro w hSw
      obtain ⟨t1', r2', p0', p1', p2', p3'⟩ := HXX.out _ hSw
      go_simp
      try with_reducible rfl
    try simp only [Act.put, List.setIfInBounds_toArray, List.set_cons_zero, List.set_cons_succ]
    refine wpAnyH_take (i := 8) (oi := { dst := some 33, op := Op.load 30 (Operand.tmp 3), type := 30, pos := "trie.go:183", after := #[], guard := none }) (v := ?_) rfl (by kernel_rfl) (by kernel_rfl) (by kernel_rfl) (fun _ _ _ h => h) (Or.inl ⟨by rfl, ?_⟩) hHeld ?_
    rotate_left
    · intro w hSw
      obtain ⟨t1', r2', p0', p1', p2', p3'⟩ := HXX.out _ hSw
      go_simp
      try with_reducible rfl
    try simp only [Act.put, List.setIfInBounds_toArray, List.set_cons_zero, List.set_cons_succ]
    refine wpAnyH_ready (rs := [9]) (by kernel_rfl) (by simp) ?_
    refine AllReadyH.cons (o := { dst := some 34, op := Op.call { callee := Callee.value (Operand.func 38), args := #[Operand.tmp 32, Operand.tmp 33], argTypes := #[68, 30] }, type := 71, pos := "trie.go:183", after := #[{ on := 7, ground := Ground.data }, { on := 8, ground := Ground.data }], guard := none }) rfl (fun K hK => ?_) AllReadyH.nil
    go_simp
    refine (HDEL.out r.t r.S _ _ HG.out (HTr.out.below' (below_drewN (Below.refl _ _) 1))).mono ?_
    rintro e w9 ⟨q9, S9, rfl, hs9⟩
    obtain ⟨A9, rfl⟩ := hs9.t.form
    obtain ⟨hL9, j9, y9⟩ := HT2.out.laid HRR.out (hs9.from_ (below_drewN (Below.refl _ _) 1)) HGD.out
    have HL9 := Lib.hid hL9
    have HG9 := Lib.hid hs9.g
    clear hs9 hL9
    go_wp2_with fail
    refine hK.out _ _ (hHeld.trans HG9.out) (fun hHeld => ?_)
    clear hK K
    try simp only [Act.put, List.setIfInBounds_toArray, List.set_cons_zero, List.set_cons_succ]
    refine wpAnyH_take (i := 10) (oi := { dst := some 24, op := Op.move (Operand.tmp 34), type := 71, pos := "trie.go:183", after := #[{ on := 9, ground := Ground.data }], guard := none }) (v := ?_) rfl (by kernel_rfl) (by kernel_rfl) (by kernel_rfl) (fun _ _ _ h => h) (Or.inl ⟨by rfl, ?_⟩) hHeld ?_
    rotate_left
    · intro w hSw
      clear hSw
      go_simp
      try with_reducible rfl
    try simp only [Act.put, List.setIfInBounds_toArray, List.set_cons_zero, List.set_cons_succ]
    refine wpAnyH_take (i := 11) (oi := { dst := some 35, op := Op.extract (Operand.tmp 24) 0, type := 68, pos := "trie.go:183", after := #[{ on := 10, ground := Ground.data }], guard := none }) (v := ?_) rfl (by kernel_rfl) (by kernel_rfl) (by kernel_rfl) (fun _ _ _ h => h) (Or.inl ⟨by rfl, ?_⟩) hHeld ?_
    rotate_left
    · intro w hSw
      clear hSw
      go_simp
      try with_reducible rfl
    try simp only [Act.put, List.setIfInBounds_toArray, List.set_cons_zero, List.set_cons_succ]
    refine wpAnyH_take (i := 12) (oi := { dst := some 36, op := Op.extract (Operand.tmp 24) 1, type := 4, pos := "trie.go:183", after := #[{ on := 10, ground := Ground.data }, { on := 13, ground := Ground.gcOnly Departure.lateStores }], guard := none }) (v := ?_) rfl (by kernel_rfl) (by kernel_rfl) (by kernel_rfl) (fun _ _ _ h => h) (Or.inl ⟨by rfl, ?_⟩) hHeld ?_
    rotate_left
    · intro w hSw
      clear hSw
      go_simp
      try with_reducible rfl
    try simp only [Act.put, List.setIfInBounds_toArray, List.set_cons_zero, List.set_cons_succ]
    refine wpAnyH_take (i := 13) (oi := { dst := some 7, op := Op.assign (Operand.tmp 35), type := 68, pos := "trie.go:183", after := #[{ on := 11, ground := Ground.data }, { on := 9, ground := Ground.chain }, { on := 0, ground := Ground.phase }, { on := 1, ground := Ground.phase }, { on := 2, ground := Ground.phase }, { on := 3, ground := Ground.phase }, { on := 4, ground := Ground.phase }, { on := 5, ground := Ground.phase }, { on := 6, ground := Ground.phase }, { on := 7, ground := Ground.phase }, { on := 8, ground := Ground.phase }, { on := 9, ground := Ground.phase }, { on := 10, ground := Ground.phase }, { on := 11, ground := Ground.phase }, { on := 12, ground := Ground.textOnly Departure.lateStores }], guard := none }) (v := ?_) rfl (by kernel_rfl) (by kernel_rfl) (by kernel_rfl) (fun _ _ _ h => h) (Or.inl ⟨by rfl, ?_⟩) hHeld ?_
    rotate_left
    · intro w hSw
      clear hSw
      go_simp
      try with_reducible rfl
    try simp only [Act.put, List.setIfInBounds_toArray, List.set_cons_zero, List.set_cons_succ]
    refine wpAnyH_take (i := 14) (oi := { dst := some 8, op := Op.assign (Operand.tmp 36), type := 4, pos := "trie.go:183", after := #[{ on := 12, ground := Ground.data }, { on := 13, ground := Ground.chain }, { on := 0, ground := Ground.phase }, { on := 1, ground := Ground.phase }, { on := 2, ground := Ground.phase }, { on := 3, ground := Ground.phase }, { on := 4, ground := Ground.phase }, { on := 5, ground := Ground.phase }, { on := 6, ground := Ground.phase }, { on := 7, ground := Ground.phase }, { on := 8, ground := Ground.phase }, { on := 9, ground := Ground.phase }, { on := 10, ground := Ground.phase }, { on := 11, ground := Ground.phase }, { on := 12, ground := Ground.phase }, { on := 13, ground := Ground.phase }], guard := none }) (v := ?_) rfl (by kernel_rfl) (by kernel_rfl) (by kernel_rfl) (fun _ _ _ h => h) (Or.inl ⟨by rfl, ?_⟩) hHeld ?_
    rotate_left
    · intro w hSw
      clear hSw
      go_simp
      try with_reducible rfl
    try simp only [Act.put, List.setIfInBounds_toArray, List.set_cons_zero, List.set_cons_succ]
    refine wpAnyH_done (by kernel_rfl) ?_ _
    obtain ⟨t1, _⟩ := HXX.out _ hHeld
    clear hHeld r0 r1 r2 zr
    obtain ⟨s0, s1, s2, ys1, ys2⟩ := HL9.out.t.c3
    generalize (r.t.del 0 p).2 = gb at HGI
    cases gb with
    | true =>
      go_wp2_with fail
      go_ret
      exact ⟨_, _, true, rfl, (HL9.out.count _).from_ HB2.out, fun q x => (HRM.out _ _ q x).trans ⟨fun k => k.elim False.elim id, Or.inr⟩, ⟨fun _ => HGI.out.1 (by trivial), fun _ => rfl⟩⟩
    | false =>
      go_wp2_with fail
      go_ret
      exact ⟨_, _, false, rfl, HL9.out.from_ HB2.out, fun q x => (HRM.out _ _ q x).trans ⟨fun k => k.elim False.elim id, Or.inr⟩, HGI.out⟩
set_option maxRecDepth 100000 in
set_option maxHeartbeats 4000000 in
theorem tdel_bad (fam rd : Int) (addr : ByteArray) (len : Int) (ha : addr.size ≤ 9223372036854775807) (hno : ¬ PrefOk fam rd addr len) (bt : Nat) (w : World) (h : w.cell? ⟨bt, 0, none⟩ = some (.bool true)) (hbt : bt < w.heap.size) :
    Calls Try.prog 25 #[.pointer (some ⟨bt, 0, none⟩), .agg #[.int .i64 fam, .int .u64 rd, .string addr, .int .i64 len]] w fun e w' => e = .returned (.bool false) ∧ Below w.heap.size w w' := by
  have HCK := Lib.hid (fun w => check_any fam rd addr len w ha)
  rw [show prefC fam rd addr len = 2 from if_neg hno] at HCK
  have HC0 : Hid ((w.alloc (.cells #[.int .i64 fam, .int .u64 rd, .string addr, .int .i64 len] 30)).cell? ⟨bt, 0, none⟩ = some (.bool true)) := (Below.cell ((Below.refl w.heap.size w).alloc (Nat.le_refl _) _) (p := ⟨bt, 0, none⟩) hbt).trans h
  clear hno
  go_enter Try.func25, Try.ntmps25
  go_wp2_with fail
  refine (tnone_any bt _ HC0.out).mono ?_
  rintro e w1 ⟨rfl, hw1⟩
  subst hw1
  go_wp2_with fail
  refine (HCK.out _).mono ?_
  rintro e w1 ⟨rfl, hb1⟩
  have HB1 : Hid (Below w.heap.size w w1) := by
    show Below _ _ _
    exact ((Below.refl _ _).alloc (Nat.le_refl _) _).trans (hb1.mono (by simp))
  clear hb1
  go_wp2_with fail
  go_ret
  exact ⟨rfl, HB1.out⟩
/-- what a Del leaves -/
def DelPost (w : World) (bw : Nat) (M : Tp → Int → Prop) (X : Nat → Prop) (p : Px) (e : Ending) (w' : World) : Prop :=
  (¬ PrefOk p.fam p.rd p.addr p.len ∧ e = .returned (.bool false) ∧ Below w.heap.size w w') ∨
  (PrefOk p.fam p.rd p.addr p.len ∧ ∃ g X', e = .returned (.bool g) ∧ WaysIs w' bw (fun q x => q ≠ p.tp ∧ M q x) X' ∧ GrownX X w w' ∧ (∀ x, X' x → X x ∨ w.heap.size ≤ x) ∧ (g = true ↔ ∃ x, M p.tp x))
set_option maxRecDepth 100000 in
set_option maxHeartbeats 4000000 in
theorem wdel_bad (fam rd : Int) (addr : ByteArray) (len : Int) (ha : addr.size ≤ 9223372036854775807) (bw bt base : Nat) (v : Value) (n : Int) (R : List Rt) (w : World) (h : WaysAt w bw bt base v n R) (hno : ¬ PrefOk fam rd addr len) :
    Calls Try.prog 11 #[.pointer (some ⟨bw, 0, none⟩), .agg #[.int .i64 fam, .int .u64 rd, .string addr, .int .i64 len]] w (fun e w' => e = .returned (.bool false) ∧ Below w.heap.size w w') := by
  have HW := Lib.hid h
  have hbw := h.c.lt
  have HT := Lib.hid h.t
  have HNO := Lib.hid hno
  clear hno
  clear h
  obtain ⟨W, hW⟩ : ∃ W, W = w.alloc (.cells #[.int .i64 fam, .int .u64 rd, .string addr, .int .i64 len] 30) := ⟨_, rfl⟩
  have HB0 : Hid (Below w.heap.size w W) := by
    rw [hW]
    show Below _ _ _
    exact (Below.refl _ _).alloc (Nat.le_refl _) _
  have HP0 : Hid (CellsAt W w.heap.size #[.int .i64 fam, .int .u64 rd, .string addr, .int .i64 len] 30) := by rw [hW]; exact CellsAt.new _ _ _
  have HC0 : Hid (CellsAt W bw #[.pointer (some ⟨bt, 0, none⟩)] 51) := HW.out.c.below HB0.out hbw
  go_enter Try.func11, Try.ntmps11
  go_wp2_with fail
  rw [← hW]
  clear hW
  refine wp_region_held_drew (S := fun w' => Below W.heap.size W w') (by kernel_rfl) (below_drewN (Below.refl _ _) 1) (fun hHeld => ?_)
  refine wpAnyH_take (i := 0) (oi := { dst := some 5, op := Op.move (Operand.tmp 0), type := 24, pos := "resolve.go:33", after := #[], guard := none }) (v := ?_) rfl (by kernel_rfl) (by kernel_rfl) (by kernel_rfl) (fun _ _ _ h => h) (Or.inl ⟨by rfl, ?_⟩) hHeld ?_
  rotate_left
  · intro w hSw
    clear hSw
    go_simp
    try with_reducible rfl
  try simp only [Act.put, List.setIfInBounds_toArray, List.set_cons_zero, List.set_cons_succ]
  refine wpAnyH_ready (rs := [1]) (by kernel_rfl) (by simp) ?_
  refine AllReadyH.cons (o := { dst := some 6, op := Op.call { callee := Callee.value (Operand.func 18), args := #[Operand.tmp 5], argTypes := #[24] }, type := 4, pos := "resolve.go:33", after := #[{ on := 0, ground := Ground.data }], guard := none }) rfl (fun K hK => ?_) AllReadyH.nil
  go_simp
  refine (wnone_any bw ⟨bt, 0, none⟩ _ ((HC0.out.drew 1).c1)).mono ?_
  rintro e wn ⟨rfl, hwn⟩
  rw [hwn]
  clear hwn
  go_wp2_with fail
  refine hK.out _ _ (hHeld) (fun hHeld => ?_)
  clear hK K
  try simp only [Act.put, List.setIfInBounds_toArray, List.set_cons_zero, List.set_cons_succ]
  refine wpAnyH_take (i := 2) (oi := { dst := some 7, op := Op.unOp UnOp.not 4 (Operand.tmp 6), type := 4, pos := "resolve.go:33", after := #[{ on := 1, ground := Ground.data }], guard := none }) (v := ?_) rfl (by kernel_rfl) (by kernel_rfl) (by kernel_rfl) (fun _ _ _ h => h) (Or.inl ⟨by rfl, ?_⟩) hHeld ?_
  rotate_left
  · intro w hSw
    clear hSw
    go_simp
    try with_reducible rfl
  try simp only [Act.put, List.setIfInBounds_toArray, List.set_cons_zero, List.set_cons_succ]
  refine wpAnyH_take (i := 3) (oi := { dst := some 8, op := Op.move (Operand.tmp 7), type := 4, pos := "resolve.go:33", after := #[{ on := 2, ground := Ground.data }, { on := 1, ground := Ground.chain }], guard := none }) (v := ?_) rfl (by kernel_rfl) (by kernel_rfl) (by kernel_rfl) (fun _ _ _ h => h) (Or.inl ⟨by rfl, ?_⟩) hHeld ?_
  rotate_left
  · intro w hSw
    clear hSw
    go_simp
    try with_reducible rfl
  try simp only [Act.put, List.setIfInBounds_toArray, List.set_cons_zero, List.set_cons_succ]
  refine wpAnyH_take (i := 4) (oi := { dst := some 9, op := Op.move (Operand.tmp 0), type := 24, pos := "resolve.go:33", after := #[{ on := 3, ground := Ground.guard }], guard := some (3, true) }) (v := ?_) rfl (by kernel_rfl) (by kernel_rfl) (by kernel_rfl) (fun _ _ _ h => h) (Or.inl ⟨by rfl, ?_⟩) hHeld ?_
  rotate_left
  · intro w hSw
    clear hSw
    go_simp
    try with_reducible rfl
  try simp only [Act.put, List.setIfInBounds_toArray, List.set_cons_zero, List.set_cons_succ]
  refine wpAnyH_take (i := 5) (oi := { dst := some 10, op := Op.nilCheck (Operand.tmp 9), type := 0, pos := "resolve.go:33", after := #[{ on := 4, ground := Ground.data }, { on := 3, ground := Ground.guard }], guard := some (3, true) }) (v := ?_) rfl (by kernel_rfl) (by kernel_rfl) (by kernel_rfl) (fun _ _ _ h => h) (Or.inl ⟨by rfl, ?_⟩) hHeld ?_
  rotate_left
  · intro w hSw
    clear hSw
    go_simp
    try with_reducible rfl
  try simp only [Act.put, List.setIfInBounds_toArray, List.set_cons_zero, List.set_cons_succ]
  refine wpAnyH_take (i := 6) (oi := { dst := some 11, op := Op.fieldAddr 51 (Operand.tmp 10) 0, type := 0, pos := "resolve.go:33", after := #[{ on := 5, ground := Ground.data }, { on := 3, ground := Ground.guard }], guard := some (3, true) }) (v := ?_) rfl (by kernel_rfl) (by kernel_rfl) (by kernel_rfl) (fun _ _ _ h => h) (Or.inl ⟨by rfl, ?_⟩) hHeld ?_
  rotate_left
  · intro w hSw
    clear hSw
    go_simp
    try with_reducible rfl
  try simp only [Act.put, List.setIfInBounds_toArray, List.set_cons_zero, List.set_cons_succ]
  refine wpAnyH_take (i := 7) (oi := { dst := some 12, op := Op.load 48 (Operand.tmp 11), type := 48, pos := "resolve.go:33", after := #[{ on := 6, ground := Ground.data }, { on := 3, ground := Ground.guard }], guard := some (3, true) }) (v := ?_) rfl (by kernel_rfl) (by kernel_rfl) (by kernel_rfl) (fun _ _ _ h => h) (Or.inl ⟨by rfl, ?_⟩) hHeld ?_
  rotate_left
  · intro w hSw
    have w0' := CellsAt.c1 (HC0.out.below hSw HC0.out.lt)
    obtain ⟨p0, p1, p2, p3, _⟩ := c4_at (HP0.out.below hSw HP0.out.lt)
    go_simp
    try with_reducible rfl
  try simp only [Act.put, List.setIfInBounds_toArray, List.set_cons_zero, List.set_cons_succ]
  refine wpAnyH_take (i := 8) (oi := { dst := some 13, op := Op.load 30 (Operand.tmp 3), type := 30, pos := "resolve.go:33", after := #[{ on := 3, ground := Ground.guard }], guard := some (3, true) }) (v := ?_) rfl (by kernel_rfl) (by kernel_rfl) (by kernel_rfl) (fun _ _ _ h => h) (Or.inl ⟨by rfl, ?_⟩) hHeld ?_
  rotate_left
  · intro w hSw
    have w0' := CellsAt.c1 (HC0.out.below hSw HC0.out.lt)
    obtain ⟨p0, p1, p2, p3, _⟩ := c4_at (HP0.out.below hSw HP0.out.lt)
    go_simp
    try with_reducible rfl
  try simp only [Act.put, List.setIfInBounds_toArray, List.set_cons_zero, List.set_cons_succ]
  refine wpAnyH_ready (rs := [9]) (by kernel_rfl) (by simp) ?_
  refine AllReadyH.cons (o := { dst := some 14, op := Op.call { callee := Callee.value (Operand.func 25), args := #[Operand.tmp 12, Operand.tmp 13], argTypes := #[48, 30] }, type := 4, pos := "resolve.go:33", after := #[{ on := 7, ground := Ground.data }, { on := 8, ground := Ground.data }, { on := 3, ground := Ground.chain }, { on := 3, ground := Ground.guard }], guard := some (3, true) }) rfl (fun K hK => ?_) AllReadyH.nil
  go_simp
  refine (tdel_bad fam rd addr len ha HNO.out bt _ ((HT.out.below (HB0.out.trans ((below_drewN (Below.refl _ _) 1).mono HB0.out.size))).c3.1) (HT.out.below (HB0.out.trans ((below_drewN (Below.refl _ _) 1).mono HB0.out.size))).c.lt).mono ?_
  rintro e w9 ⟨rfl, hb9⟩
  go_wp2_with fail
  refine hK.out _ _ (hHeld.trans (hb9.mono hHeld.size)) (fun hHeld => ?_)
  clear hK K
  try simp only [Act.put, List.setIfInBounds_toArray, List.set_cons_zero, List.set_cons_succ]
  refine wpAnyH_take (i := 10) (oi := { dst := some 15, op := Op.pick (Operand.tmp 8) (Operand.tmp 14) (Operand.const (Value.bool false)), type := 4, pos := "resolve.go:33", after := #[{ on := 3, ground := Ground.data }, { on := 9, ground := Ground.data }], guard := none }) (v := ?_) rfl (by kernel_rfl) (by kernel_rfl) (by kernel_rfl) (fun _ _ _ h => h) (Or.inl ⟨by rfl, ?_⟩) hHeld ?_
  rotate_left
  · intro w hSw
    clear hSw
    go_simp
    try with_reducible rfl
  try simp only [Act.put, List.setIfInBounds_toArray, List.set_cons_zero, List.set_cons_succ]
  refine wpAnyH_take (i := 11) (oi := { dst := some 4, op := Op.assign (Operand.tmp 15), type := 4, pos := "resolve.go:33", after := #[{ on := 10, ground := Ground.data }, { on := 9, ground := Ground.chain }, { on := 0, ground := Ground.phase }, { on := 1, ground := Ground.phase }, { on := 2, ground := Ground.phase }, { on := 3, ground := Ground.phase }, { on := 4, ground := Ground.phase }, { on := 5, ground := Ground.phase }, { on := 6, ground := Ground.phase }, { on := 7, ground := Ground.phase }, { on := 8, ground := Ground.phase }, { on := 9, ground := Ground.phase }, { on := 10, ground := Ground.phase }], guard := none }) (v := ?_) rfl (by kernel_rfl) (by kernel_rfl) (by kernel_rfl) (fun _ _ _ h => h) (Or.inl ⟨by rfl, ?_⟩) hHeld ?_
  rotate_left
  · intro w hSw
    clear hSw
    go_simp
    try with_reducible rfl
  try simp only [Act.put, List.setIfInBounds_toArray, List.set_cons_zero, List.set_cons_succ]
  refine wpAnyH_done (by kernel_rfl) ?_ _
  have HB9 : Hid (Below w.heap.size w w9) := HB0.out.trans (hHeld.mono HB0.out.size)
  clear hHeld hb9
  go_wp2_with fail
  go_ret
  exact ⟨rfl, HB9.out⟩
set_option maxRecDepth 100000 in
set_option maxHeartbeats 4000000 in
theorem wdel_good (fam rd : Int) (addr : ByteArray) (k : Nat) (ha : addr.size ≤ 9223372036854775807) (bw bt base : Nat) (v : Value) (n : Int) (R : List Rt) (w : World) (h : WaysAt w bw bt base v n R) (hok : PrefOk fam rd addr (k : Nat)) :
    Calls Try.prog 11 #[.pointer (some ⟨bw, 0, none⟩), .agg #[.int .i64 fam, .int .u64 rd, .string addr, .int .i64 (k : Nat)]] w (TDelPost w bt base v R ⟨fam, rd, addr, k⟩) := by
  have HW := Lib.hid h
  have hbw := h.c.lt
  have HT := Lib.hid h.t
  have HDL := Lib.hid (fun w1 h => tdel_any ⟨fam, rd, addr, k⟩ hok bt base v n R w1 h)
  clear hok
  unfold Tp.v at HDL
  dsimp only at HDL
  clear h
  obtain ⟨W, hW⟩ : ∃ W, W = w.alloc (.cells #[.int .i64 fam, .int .u64 rd, .string addr, .int .i64 (k : Nat)] 30) := ⟨_, rfl⟩
  have HB0 : Hid (Below w.heap.size w W) := by
    rw [hW]
    show Below _ _ _
    exact (Below.refl _ _).alloc (Nat.le_refl _) _
  have HP0 : Hid (CellsAt W w.heap.size #[.int .i64 fam, .int .u64 rd, .string addr, .int .i64 (k : Nat)] 30) := by rw [hW]; exact CellsAt.new _ _ _
  have HC0 : Hid (CellsAt W bw #[.pointer (some ⟨bt, 0, none⟩)] 51) := HW.out.c.below HB0.out hbw
  go_enter Try.func11, Try.ntmps11
  go_wp2_with fail
  rw [← hW]
  clear hW
  refine wp_region_held_drew (S := fun w' => GrownX (trX bt v R) W w') (by kernel_rfl) (GrownX.of_below (below_drewN (Below.refl _ _) 1)) (fun hHeld => ?_)
  refine wpAnyH_take (i := 0) (oi := { dst := some 5, op := Op.move (Operand.tmp 0), type := 24, pos := "resolve.go:33", after := #[], guard := none }) (v := ?_) rfl (by kernel_rfl) (by kernel_rfl) (by kernel_rfl) (fun _ _ _ h => h) (Or.inl ⟨by rfl, ?_⟩) hHeld ?_
  rotate_left
  · intro w hSw
    clear hSw
    go_simp
    try with_reducible rfl
  try simp only [Act.put, List.setIfInBounds_toArray, List.set_cons_zero, List.set_cons_succ]
  refine wpAnyH_ready (rs := [1]) (by kernel_rfl) (by simp) ?_
  refine AllReadyH.cons (o := { dst := some 6, op := Op.call { callee := Callee.value (Operand.func 18), args := #[Operand.tmp 5], argTypes := #[24] }, type := 4, pos := "resolve.go:33", after := #[{ on := 0, ground := Ground.data }], guard := none }) rfl (fun K hK => ?_) AllReadyH.nil
  go_simp
  refine (wnone_any bw ⟨bt, 0, none⟩ _ ((HC0.out.drew 1).c1)).mono ?_
  rintro e wn ⟨rfl, hwn⟩
  rw [hwn]
  clear hwn
  go_wp2_with fail
  refine hK.out _ _ (hHeld) (fun hHeld => ?_)
  clear hK K
  try simp only [Act.put, List.setIfInBounds_toArray, List.set_cons_zero, List.set_cons_succ]
  refine wpAnyH_take (i := 2) (oi := { dst := some 7, op := Op.unOp UnOp.not 4 (Operand.tmp 6), type := 4, pos := "resolve.go:33", after := #[{ on := 1, ground := Ground.data }], guard := none }) (v := ?_) rfl (by kernel_rfl) (by kernel_rfl) (by kernel_rfl) (fun _ _ _ h => h) (Or.inl ⟨by rfl, ?_⟩) hHeld ?_
  rotate_left
  · intro w hSw
    clear hSw
    go_simp
    try with_reducible rfl
  try simp only [Act.put, List.setIfInBounds_toArray, List.set_cons_zero, List.set_cons_succ]
  refine wpAnyH_take (i := 3) (oi := { dst := some 8, op := Op.move (Operand.tmp 7), type := 4, pos := "resolve.go:33", after := #[{ on := 2, ground := Ground.data }, { on := 1, ground := Ground.chain }], guard := none }) (v := ?_) rfl (by kernel_rfl) (by kernel_rfl) (by kernel_rfl) (fun _ _ _ h => h) (Or.inl ⟨by rfl, ?_⟩) hHeld ?_
  rotate_left
  · intro w hSw
    clear hSw
    go_simp
    try with_reducible rfl
  try simp only [Act.put, List.setIfInBounds_toArray, List.set_cons_zero, List.set_cons_succ]
  refine wpAnyH_take (i := 4) (oi := { dst := some 9, op := Op.move (Operand.tmp 0), type := 24, pos := "resolve.go:33", after := #[{ on := 3, ground := Ground.guard }], guard := some (3, true) }) (v := ?_) rfl (by kernel_rfl) (by kernel_rfl) (by kernel_rfl) (fun _ _ _ h => h) (Or.inl ⟨by rfl, ?_⟩) hHeld ?_
  rotate_left
  · intro w hSw
    clear hSw
    go_simp
    try with_reducible rfl
  try simp only [Act.put, List.setIfInBounds_toArray, List.set_cons_zero, List.set_cons_succ]
  refine wpAnyH_take (i := 5) (oi := { dst := some 10, op := Op.nilCheck (Operand.tmp 9), type := 0, pos := "resolve.go:33", after := #[{ on := 4, ground := Ground.data }, { on := 3, ground := Ground.guard }], guard := some (3, true) }) (v := ?_) rfl (by kernel_rfl) (by kernel_rfl) (by kernel_rfl) (fun _ _ _ h => h) (Or.inl ⟨by rfl, ?_⟩) hHeld ?_
  rotate_left
  · intro w hSw
    clear hSw
    go_simp
    try with_reducible rfl
  try simp only [Act.put, List.setIfInBounds_toArray, List.set_cons_zero, List.set_cons_succ]
  refine wpAnyH_take (i := 6) (oi := { dst := some 11, op := Op.fieldAddr 51 (Operand.tmp 10) 0, type := 0, pos := "resolve.go:33", after := #[{ on := 5, ground := Ground.data }, { on := 3, ground := Ground.guard }], guard := some (3, true) }) (v := ?_) rfl (by kernel_rfl) (by kernel_rfl) (by kernel_rfl) (fun _ _ _ h => h) (Or.inl ⟨by rfl, ?_⟩) hHeld ?_
  rotate_left
  · intro w hSw
    clear hSw
    go_simp
    try with_reducible rfl
  try simp only [Act.put, List.setIfInBounds_toArray, List.set_cons_zero, List.set_cons_succ]
  refine wpAnyH_take (i := 7) (oi := { dst := some 12, op := Op.load 48 (Operand.tmp 11), type := 48, pos := "resolve.go:33", after := #[{ on := 6, ground := Ground.data }, { on := 3, ground := Ground.guard }], guard := some (3, true) }) (v := ?_) rfl (by kernel_rfl) (by kernel_rfl) (by kernel_rfl) (fun _ _ _ h => h) (Or.inl ⟨by rfl, ?_⟩) hHeld ?_
  rotate_left
  · intro w hSw
    have w0' := CellsAt.c1 (HC0.out.grownX hSw HW.out.o)
    obtain ⟨p0, p1, p2, p3, _⟩ := c4_at (HP0.out.grownX hSw (fun hx => Nat.lt_irrefl _ (HT.out.lt _ hx)))
    go_simp
    try with_reducible rfl
  try simp only [Act.put, List.setIfInBounds_toArray, List.set_cons_zero, List.set_cons_succ]
  refine wpAnyH_take (i := 8) (oi := { dst := some 13, op := Op.load 30 (Operand.tmp 3), type := 30, pos := "resolve.go:33", after := #[{ on := 3, ground := Ground.guard }], guard := some (3, true) }) (v := ?_) rfl (by kernel_rfl) (by kernel_rfl) (by kernel_rfl) (fun _ _ _ h => h) (Or.inl ⟨by rfl, ?_⟩) hHeld ?_
  rotate_left
  · intro w hSw
    have w0' := CellsAt.c1 (HC0.out.grownX hSw HW.out.o)
    obtain ⟨p0, p1, p2, p3, _⟩ := c4_at (HP0.out.grownX hSw (fun hx => Nat.lt_irrefl _ (HT.out.lt _ hx)))
    go_simp
    try with_reducible rfl
  try simp only [Act.put, List.setIfInBounds_toArray, List.set_cons_zero, List.set_cons_succ]
  refine wpAnyH_ready (rs := [9]) (by kernel_rfl) (by simp) ?_
  refine AllReadyH.cons (o := { dst := some 14, op := Op.call { callee := Callee.value (Operand.func 25), args := #[Operand.tmp 12, Operand.tmp 13], argTypes := #[48, 30] }, type := 4, pos := "resolve.go:33", after := #[{ on := 7, ground := Ground.data }, { on := 8, ground := Ground.data }, { on := 3, ground := Ground.chain }, { on := 3, ground := Ground.guard }], guard := some (3, true) }) rfl (fun K hK => ?_) AllReadyH.nil
  go_simp
  refine (HDL.out _ (HT.out.below (HB0.out.trans ((below_drewN (Below.refl _ _) 1).mono HB0.out.size)))).mono ?_
  rintro e w9 ⟨n', R', g, rfl, hl9, hm9, hg9⟩
  go_wp2_with fail
  refine hK.out _ _ (hHeld.trans hl9.g) (fun hHeld => ?_)
  clear hK K
  try simp only [Act.put, List.setIfInBounds_toArray, List.set_cons_zero, List.set_cons_succ]
  refine wpAnyH_take (i := 10) (oi := { dst := some 15, op := Op.pick (Operand.tmp 8) (Operand.tmp 14) (Operand.const (Value.bool false)), type := 4, pos := "resolve.go:33", after := #[{ on := 3, ground := Ground.data }, { on := 9, ground := Ground.data }], guard := none }) (v := ?_) rfl (by kernel_rfl) (by kernel_rfl) (by kernel_rfl) (fun _ _ _ h => h) (Or.inl ⟨by rfl, ?_⟩) hHeld ?_
  rotate_left
  · intro w hSw
    clear hSw
    go_simp
    try with_reducible rfl
  try simp only [Act.put, List.setIfInBounds_toArray, List.set_cons_zero, List.set_cons_succ]
  refine wpAnyH_take (i := 11) (oi := { dst := some 4, op := Op.assign (Operand.tmp 15), type := 4, pos := "resolve.go:33", after := #[{ on := 10, ground := Ground.data }, { on := 9, ground := Ground.chain }, { on := 0, ground := Ground.phase }, { on := 1, ground := Ground.phase }, { on := 2, ground := Ground.phase }, { on := 3, ground := Ground.phase }, { on := 4, ground := Ground.phase }, { on := 5, ground := Ground.phase }, { on := 6, ground := Ground.phase }, { on := 7, ground := Ground.phase }, { on := 8, ground := Ground.phase }, { on := 9, ground := Ground.phase }, { on := 10, ground := Ground.phase }], guard := none }) (v := ?_) rfl (by kernel_rfl) (by kernel_rfl) (by kernel_rfl) (fun _ _ _ h => h) (Or.inl ⟨by rfl, ?_⟩) hHeld ?_
  rotate_left
  · intro w hSw
    clear hSw
    go_simp
    try with_reducible rfl
  try simp only [Act.put, List.setIfInBounds_toArray, List.set_cons_zero, List.set_cons_succ]
  refine wpAnyH_done (by kernel_rfl) ?_ _
  have HL9 := Lib.hid (hl9.from_ (HB0.out.trans ((below_drewN (Below.refl _ _) 1).mono HB0.out.size)))
  have HM9 := Lib.hid hm9
  have HG9 := Lib.hid hg9
  clear hHeld hl9 hm9 hg9
  go_wp2_with fail
  go_ret
  exact ⟨n', R', g, rfl, HL9.out, HM9.out, HG9.out⟩
theorem wdel_any (p : Px) (ha : p.addr.size ≤ 9223372036854775807) (bw : Nat) (M : Tp → Int → Prop) (X : Nat → Prop) (w : World) (h : WaysIs w bw M X) :
    Calls Try.prog 11 #[.pointer (some ⟨bw, 0, none⟩), p.v] w (DelPost w bw M X p) := by
  obtain ⟨bt, base, v, n, R, hw, hm, hx⟩ := h
  by_cases hok : PrefOk p.fam p.rd p.addr p.len
  · obtain ⟨fam, rd, addr, len⟩ := p
    obtain ⟨k, rfl⟩ : ∃ k : Nat, len = (k : Int) := ⟨len.toNat, by
      have h2 : 0 ≤ len := hok.2.2.1
      omega⟩
    refine (wdel_good fam rd addr k ha bw bt base v n R w hw hok).mono ?_
    rintro e w' ⟨n', R', g, rfl, hl, hm', hg⟩
    refine Or.inr ⟨hok, g, fun x => x = bw ∨ trX bt v R' x, rfl, ⟨bt, base, v, n', R', ⟨hw.c.grownX hl.g hw.o, hl.t, Nat.le_trans hw.b hl.g.size, fun hx' => ?_⟩, fun q x => (hm' q x).trans ?_, fun x => Iff.rfl⟩, hl.g.mono fun x k => (hx x).2 (Or.inr k), fun x k => ?_, hg.trans ?_⟩
    · rcases hl.s _ hx' with k | k
      · exact hw.o k
      · have := hw.c.lt
        omega
    · rw [hm q x]
      rfl
    · rcases k with k | k
      · exact Or.inl ((hx x).2 (Or.inl k))
      · exact (hl.s x k).imp (fun j => (hx x).2 (Or.inr j)) id
    · exact ⟨fun ⟨x, k⟩ => ⟨x, (hm _ _).1 k⟩, fun ⟨x, k⟩ => ⟨x, (hm _ _).2 k⟩⟩
  · exact (wdel_bad p.fam p.rd p.addr p.len ha bw bt base v n R w hw hok).mono fun e w' k => Or.inl ⟨hok, k.1, k.2⟩
end Go.Proofs.Ythnjepehiddogaa
