/-
  Timers: the law's keys, order, works. Conditions: sizes.
-/
import Derived.Test.YtcgegaahdbnacaaWhH
import Derived.Deep.QuietTactic
import Derived.BigQuiet
import Derived.Handy
set_option linter.unusedVariables false
set_option linter.unusedSimpArgs false
namespace Go.Proofs.Ytcgegaahdbnacaa
open Go.RowKit Go.MapKept Go.Shelf Go.Lib
open Go.Maps (Keyed)

theorem wkey_any (k : WK) (w : World) : Calls Try.prog 17 #[.int .i64 k.kind, .string k.peer, .int .i64 k.fam] w fun e w' => e = .returned k.v ∧ Below w.heap.size w w' := by
  go_enter Try.func17, Try.ntmps17
  go_wp2_with fail
  refine bodyPost_ret (v := .agg #[.int .i64 k.kind, .string k.peer, .int .i64 k.fam]) (by simp [results, Try.results17, go_sem]) rfl ⟨rfl, ?_⟩
  go_grown
set_option maxRecDepth 100000 in
set_option maxHeartbeats 4000000 in
theorem ahead_any (x y : Tm) (w : World) : Calls Try.prog 10 #[.agg (encT x).toArray, .agg (encT y).toArray] w fun e w' => e = .returned (.bool (tlt x y)) ∧ Below w.heap.size w w' := by
  obtain ⟨xa, ⟨xk, xp, xf⟩⟩ := x
  obtain ⟨ya, ⟨yk, yp, yf⟩⟩ := y
  have HA := Lib.hid (((Below.refl w.heap.size w).alloc (Nat.le_refl _) (.cells #[.int .u64 (xa : Nat), .int .i64 xk, .string xp, .int .i64 xf] 32)).alloc (by simp) (.cells #[.int .u64 (ya : Nat), .int .i64 yk, .string yp, .int .i64 yf] 32))
  unfold encT
  by_cases h1 : xa = ya
  · subst h1
    by_cases h2 : xk = yk
    · subst h2
      by_cases h3 : xp = yp
      · subst h3
        have hr : Hid (tlt ⟨xa, xk, xp, xf⟩ ⟨xa, xk, xp, yf⟩ = decide (xf < yf)) := by show _ = _; simp [tlt, bl_irrefl]
        go_enter Try.func10, Try.ntmps10
        go_wp2_with fail
        go_ret
        exact ⟨ret_bool hr.out.symm, HA.out⟩
      · have hne : ¬ xp.toList = yp.toList := fun e => h3 (toList_inj e)
        have hne2 : (xp.toList == yp.toList) = false := by rw [beq_eq_false_iff_ne]; exact hne
        have hr : Hid (tlt ⟨xa, xk, xp, xf⟩ ⟨xa, xk, yp, yf⟩ = Go.Op.bytesLess xp.toList yp.toList) := by show _ = _; simp [tlt, hne]
        clear h3
        go_enter Try.func10, Try.ntmps10
        go_wp2_with fail
        go_ret
        exact ⟨ret_bool hr.out.symm, HA.out⟩
    · have hne2 : (xk == yk) = false := by rw [beq_eq_false_iff_ne]; exact h2
      have hr : Hid (tlt ⟨xa, xk, xp, xf⟩ ⟨xa, yk, yp, yf⟩ = decide (xk < yk)) := by show _ = _; simp [tlt, h2]
      go_enter Try.func10, Try.ntmps10
      go_wp2_with fail
      go_ret
      exact ⟨ret_bool hr.out.symm, HA.out⟩
  · have hne : ¬ (xa : Int) = ya := by omega
    have hne2 : ((xa : Int) == ya) = false := by rw [beq_eq_false_iff_ne]; exact hne
    have hr : Hid (tlt ⟨xa, xk, xp, xf⟩ ⟨ya, yk, yp, yf⟩ = decide ((xa : Int) < ya)) := by show _ = _; simp [tlt, h1]
    clear h1
    go_enter Try.func10, Try.ntmps10
    go_wp2_with fail
    go_ret
    exact ⟨ret_bool (by rw [hr.out]; simp), HA.out⟩
set_option maxRecDepth 100000 in
set_option maxHeartbeats 4000000 in
theorem rahead_any (x y : Tm) (w : World) : Calls Try.prog 33 #[.agg (encT x).toArray, .agg (encT y).toArray] w fun e w' => e = .returned (.bool (tlt x y)) ∧ Below w.heap.size w w' := by
  obtain ⟨xa, ⟨xk, xp, xf⟩⟩ := x
  obtain ⟨ya, ⟨yk, yp, yf⟩⟩ := y
  have HA := Lib.hid (((Below.refl w.heap.size w).alloc (Nat.le_refl _) (.cells #[.int .u64 (xa : Nat), .int .i64 xk, .string xp, .int .i64 xf] 32)).alloc (by simp) (.cells #[.int .u64 (ya : Nat), .int .i64 yk, .string yp, .int .i64 yf] 32))
  unfold encT
  by_cases h1 : xa = ya
  · subst h1
    by_cases h2 : xk = yk
    · subst h2
      by_cases h3 : xp = yp
      · subst h3
        have hr : Hid (tlt ⟨xa, xk, xp, xf⟩ ⟨xa, xk, xp, yf⟩ = decide (xf < yf)) := by show _ = _; simp [tlt, bl_irrefl]
        go_enter Try.func33, Try.ntmps33
        go_wp2_with fail
        go_ret
        exact ⟨ret_bool hr.out.symm, HA.out⟩
      · have hne : ¬ xp.toList = yp.toList := fun e => h3 (toList_inj e)
        have hne2 : (xp.toList == yp.toList) = false := by rw [beq_eq_false_iff_ne]; exact hne
        have hr : Hid (tlt ⟨xa, xk, xp, xf⟩ ⟨xa, xk, yp, yf⟩ = Go.Op.bytesLess xp.toList yp.toList) := by show _ = _; simp [tlt, hne]
        clear h3
        go_enter Try.func33, Try.ntmps33
        go_wp2_with fail
        go_ret
        exact ⟨ret_bool hr.out.symm, HA.out⟩
    · have hne2 : (xk == yk) = false := by rw [beq_eq_false_iff_ne]; exact h2
      have hr : Hid (tlt ⟨xa, xk, xp, xf⟩ ⟨xa, yk, yp, yf⟩ = decide (xk < yk)) := by show _ = _; simp [tlt, h2]
      go_enter Try.func33, Try.ntmps33
      go_wp2_with fail
      go_ret
      exact ⟨ret_bool hr.out.symm, HA.out⟩
  · have hne : ¬ (xa : Int) = ya := by omega
    have hne2 : ((xa : Int) == ya) = false := by rw [beq_eq_false_iff_ne]; exact hne
    have hr : Hid (tlt ⟨xa, xk, xp, xf⟩ ⟨ya, yk, yp, yf⟩ = decide ((xa : Int) < ya)) := by show _ = _; simp [tlt, h1]
    clear h1
    go_enter Try.func33, Try.ntmps33
    go_wp2_with fail
    go_ret
    exact ⟨ret_bool (by rw [hr.out]; simp), HA.out⟩

theorem FiredAt.below {w w' : World} {base : Nat} {v : Value} {l : List Tm} (h : FiredAt w base v l) (hb : Below w.heap.size w w') : FiredAt w' base v l := OwnM.below h hb (Nat.le_refl _)
theorem FiredAt.two {w : World} {base g cap : Nat} {x y : Tm} (h : FiredAt w base (.slice (some ⟨g, 0, none⟩) 2 cap) [x, y]) :
    w.cell? ⟨g, 0, none⟩ = some (.int .u64 (x.at_ : Nat)) ∧ w.cell? ⟨g, 1, none⟩ = some (.int .i64 x.k.kind) ∧ w.cell? ⟨g, 2, none⟩ = some (.string x.k.peer) ∧ w.cell? ⟨g, 3, none⟩ = some (.int .i64 x.k.fam) ∧
    w.cell? ⟨g, 4, none⟩ = some (.int .u64 (y.at_ : Nat)) ∧ w.cell? ⟨g, 5, none⟩ = some (.int .i64 y.k.kind) ∧ w.cell? ⟨g, 6, none⟩ = some (.string y.k.peer) ∧ w.cell? ⟨g, 7, none⟩ = some (.int .i64 y.k.fam) := by
  obtain ⟨g1, c1, e1, _, _, _, _, _, a0, a1, a2, a3⟩ := h.at_ (i := 0) (x := x) rfl
  obtain ⟨g2, c2, e2, _, _, _, _, _, b0, b1, b2, b3⟩ := h.at_ (i := 1) (x := y) rfl
  simp only [Value.slice.injEq, Option.some.injEq, Addr.mk.injEq] at e1 e2
  obtain ⟨⟨rfl, _⟩, _, _⟩ := e1
  obtain ⟨⟨rfl, _⟩, _, _⟩ := e2
  exact ⟨a0, a1, a2, a3, b0, b1, b2, b3⟩
/-- a key of a kind and a letter -/
def kq (kd : Int) (c : UInt8) (f : Int) : WK := ⟨kd, ⟨#[c]⟩, f⟩
theorem kq_ok (kd f : Int) (c : UInt8) (h1 : 1 ≤ kd ∧ kd ≤ 7) (h2 : 0 ≤ f ∧ f ≤ 5) : (kq kd c f).Ok := ⟨by show (1 : Nat) ≤ _; omega, by show _ ≤ kd ∧ kd ≤ _; omega, by show _ ≤ f ∧ f ≤ _; omega⟩
theorem kq_may (kd f : Int) (c : UInt8) (h1 : 1 ≤ kd ∧ kd ≤ 7) (h2 : 0 ≤ f ∧ f ≤ 5) (hc : 97 ≤ c.toNat ∧ c.toNat ≤ 122) : KMay (kq kd c f) := by
  refine ⟨h1, ⟨by show 0 < (1 : Nat); omega, by show (1 : Nat) ≤ 16; omega, fun i hi => ?_⟩, h2⟩
  have hi' : i < 1 := hi
  obtain rfl : i = 0 := by omega
  show okc 0 c.toNat = true
  simp [okc, hc]
theorem kq_inj {kd kd' f f' : Int} {c c' : UInt8} (h : kq kd c f = kq kd' c' f') : kd = kd' ∧ c = c' ∧ f = f' := by
  injection h with h1 h2 h3
  injection h2 with h2
  have := congrArg (fun x : Array UInt8 => x[0]?) h2
  exact ⟨h1, by simpa using this, h3⟩
theorem wkey_lit (kd : Int) (c : UInt8) (f : Int) (w : World) : Calls Try.prog 17 #[.int .i64 kd, .string ⟨#[c]⟩, .int .i64 f] w fun e w' => e = .returned (.agg #[.int .i64 kd, .string ⟨#[c]⟩, .int .i64 f]) ∧ Below w.heap.size w w' :=
  wkey_any (kq kd c f) w
set_option maxRecDepth 100000 in
set_option maxHeartbeats 8000000 in
theorem works_any (w : World) : Calls Try.prog 11 #[] w fun e w' => e = .returned (.bool true) ∧ Below w.heap.size w w' := by
  have KD : kq 1 98 0 ≠ kq 2 97 0 := fun h => absurd (kq_inj h).1 (by decide)
  have K1 : (kq 2 97 0).Ok := kq_ok _ _ _ (by omega) (by omega)
  have K2 : (kq 1 98 0).Ok := kq_ok _ _ _ (by omega) (by omega)
  have M1 : KMay (kq 2 97 0) := kq_may _ _ _ (by omega) (by omega) (by decide)
  have M2 : KMay (kq 1 98 0) := kq_may _ _ _ (by omega) (by omega) (by decide)
  have HKD := Lib.hid KD
  clear KD
  go_enter Try.func11, Try.ntmps11
  go_wp2_with fail
  refine (wnew_any _).mono ?_
  rintro e w1 ⟨rfl, hW, hb, hz⟩
  have HW1 := Lib.hid hW
  have HB1 := Lib.hid hb
  clear hW hb hz
  go_wp2_with fail
  refine (wkey_any (kq 2 97 0) _).mono ?_
  rintro e w2 ⟨rfl, hb⟩
  have HW2 := Lib.hid (HW1.out.below hb (Nat.le_refl _))
  have HB2 := Lib.hid (HB1.out.trans (hb.mono HB1.out.size))
  clear HW1 HB1 hb
  go_wp2_with fail
  refine (warm_none _ _ _ _ (kq 2 97 0) 9 HW2.out K1 M1 (by omega) (by simp) (by simp)).mono ?_
  rintro e w3 ⟨rfl, hW, hg⟩
  have HW3 := Lib.hid hW
  have HB3 := Lib.hid (hg.below HB2.out (fun i hi => by omega) HB2.out.size)
  clear HW2 HB2 hW hg
  go_wp2_with fail
  refine (wkey_any (kq 1 98 0) _).mono ?_
  rintro e w4 ⟨rfl, hb⟩
  have HW4 := Lib.hid (HW3.out.below hb (Nat.le_refl _))
  have HB4 := Lib.hid (HB3.out.trans (hb.mono HB3.out.size))
  clear HW3 HB3 hb
  go_wp2_with fail
  refine (warm_none _ _ _ _ (kq 1 98 0) 5 HW4.out K2 M2 (by omega) (fun p hp => by simp at hp; subst hp; exact fun e => HKD.out e.symm) (by simp)).mono ?_
  rintro e w5 ⟨rfl, hW, hg⟩
  have HW5 := Lib.hid hW
  have HB5 := Lib.hid (hg.below HB4.out (fun i hi => by omega) HB4.out.size)
  clear HW4 HB4 hW hg
  go_wp2_with fail
  refine (wkey_any (kq 2 97 0) _).mono ?_
  rintro e w6 ⟨rfl, hb⟩
  have HW6 := Lib.hid (HW5.out.below hb (Nat.le_refl _))
  have HB6 := Lib.hid (HB5.out.trans (hb.mono HB5.out.size))
  clear HW5 HB5 hb
  go_wp2_with fail
  refine (warm_some _ _ _ 0 _ (kq 2 97 0) 4 9 HW6.out K1 M1 (by omega) rfl).mono ?_
  rintro e w7 ⟨rfl, hW, hg⟩
  have HW7 := Lib.hid hW
  have HB7 := Lib.hid (hg.below HB6.out (fun i hi => by omega) HB6.out.size)
  clear HW6 HB6 hW hg
  go_wp2_with fail
  refine (wtake_any _ _ _ 6 _ HW7.out).mono ?_
  rintro e w8 ⟨v, O, K, rfl, ho, hp, hW, hk, hf, hg⟩
  have hO : O = [⟨4, kq 2 97 0⟩, ⟨5, kq 1 98 0⟩] := Ord.uniq ho (by unfold Ord; simp [tlt]) (by simpa [dueF] using hp)
  have hK : K = [] := by
    have : K.Perm [] := by simpa [dueF] using hk
    exact this.eq_nil
  subst hO
  subst hK
  obtain ⟨g, cap, rfl, _⟩ := FiredAt.at_ hf (i := 0) rfl
  have hfb : w.heap.size ≤ w7.heap.size := HB7.out.size
  generalize hbase : w7.heap.size = base at hf
  have HF := Lib.hid hf
  have HW := Lib.hid hW
  have HB : Hid (Below w.heap.size w w8) := hg.below HB7.out (fun i hi => by omega) HB7.out.size
  clear hf hW hg hk hp ho HW7 HB7 hbase
  change Hid (FiredAt w8 base (.slice (some ⟨g, 0, none⟩) 2 cap) _) at HF
  go_wp2_with fail
  refine wp_region_held_drew (S := fun w' => FiredAt w' base (.slice (some ⟨g, 0, none⟩) 2 cap) [⟨4, kq 2 97 0⟩, ⟨5, kq 1 98 0⟩] ∧ WheelAt w' (w.heap.size + 1) w.heap.size [] ∧ Below w.heap.size w w') (by kernel_rfl) (And.intro HF.out (And.intro (HW.out.drew 1) (below_drewN HB.out 1))) (fun hHeld => ?_)
  refine wpAnyH_take (i := 0) (oi := { dst := some 26, op := Op.move (Operand.tmp 2), type := 25, pos := "outright.go:20", after := #[], guard := none }) (v := ?_) rfl (by kernel_rfl) (by kernel_rfl) (by kernel_rfl) (fun _ _ _ h => h) (Or.inl ⟨by rfl, ?_⟩) hHeld ?_
  rotate_left
  · intro w hSw
    clear hSw
    go_simp
    try with_reducible rfl
  try simp only [Act.put, List.setIfInBounds_toArray, List.set_cons_zero, List.set_cons_succ]
  refine wpAnyH_take (i := 1) (oi := { dst := some 27, op := Op.call { callee := Callee.builtin Builtin.len, args := #[Operand.tmp 26], argTypes := #[25] }, type := 3, pos := "outright.go:20", after := #[{ on := 0, ground := Ground.data }], guard := none }) (v := ?_) rfl (by kernel_rfl) (by kernel_rfl) (by kernel_rfl) (fun _ _ _ h => h) (Or.inl ⟨by rfl, ?_⟩) hHeld ?_
  rotate_left
  · intro w hSw
    clear hSw
    go_simp
    try with_reducible rfl
  try simp only [Act.put, List.setIfInBounds_toArray, List.set_cons_zero, List.set_cons_succ]
  refine wpAnyH_take (i := 2) (oi := { dst := some 28, op := Op.binOp BinOp.eql 3 (Operand.tmp 27) (Operand.const (Value.int IntKind.i64 2)) 3, type := 4, pos := "outright.go:20", after := #[{ on := 1, ground := Ground.data }], guard := none }) (v := ?_) rfl (by kernel_rfl) (by kernel_rfl) (by kernel_rfl) (fun _ _ _ h => h) (Or.inl ⟨by rfl, ?_⟩) hHeld ?_
  rotate_left
  · intro w hSw
    clear hSw
    go_simp
    try with_reducible rfl
  try simp only [Act.put, List.setIfInBounds_toArray, List.set_cons_zero, List.set_cons_succ]
  refine wpAnyH_take (i := 3) (oi := { dst := some 29, op := Op.move (Operand.tmp 28), type := 4, pos := "outright.go:20", after := #[{ on := 2, ground := Ground.data }], guard := none }) (v := ?_) rfl (by kernel_rfl) (by kernel_rfl) (by kernel_rfl) (fun _ _ _ h => h) (Or.inl ⟨by rfl, ?_⟩) hHeld ?_
  rotate_left
  · intro w hSw
    clear hSw
    go_simp
    try with_reducible rfl
  try simp only [Act.put, List.setIfInBounds_toArray, List.set_cons_zero, List.set_cons_succ]
  refine wpAnyH_take (i := 4) (oi := { dst := some 30, op := Op.move (Operand.tmp 2), type := 25, pos := "outright.go:20", after := #[{ on := 3, ground := Ground.guard }], guard := some (3, true) }) (v := ?_) rfl (by kernel_rfl) (by kernel_rfl) (by kernel_rfl) (fun _ _ _ h => h) (Or.inl ⟨by rfl, ?_⟩) hHeld ?_
  rotate_left
  · intro w hSw
    clear hSw
    go_simp
    try with_reducible rfl
  try simp only [Act.put, List.setIfInBounds_toArray, List.set_cons_zero, List.set_cons_succ]
  refine wpAnyH_take (i := 5) (oi := { dst := some 31, op := Op.indexAddr 25 (Operand.tmp 30) (Operand.const (Value.int IntKind.i64 0)), type := 0, pos := "outright.go:20", after := #[{ on := 4, ground := Ground.data }, { on := 3, ground := Ground.guard }], guard := some (3, true) }) (v := ?_) rfl (by kernel_rfl) (by kernel_rfl) (by kernel_rfl) (fun _ _ _ h => h) (Or.inl ⟨by rfl, ?_⟩) hHeld ?_
  rotate_left
  · intro w hSw
    clear hSw
    go_simp
    try with_reducible rfl
  try simp only [Act.put, List.setIfInBounds_toArray, List.set_cons_zero, List.set_cons_succ]
  refine wpAnyH_take (i := 6) (oi := { dst := some 32, op := Op.load 32 (Operand.tmp 31), type := 32, pos := "outright.go:20", after := #[{ on := 5, ground := Ground.data }, { on := 3, ground := Ground.guard }], guard := some (3, true) }) (v := ?_) rfl (by kernel_rfl) (by kernel_rfl) (by kernel_rfl) (fun _ _ _ h => h) (Or.inl ⟨by rfl, ?_⟩) hHeld ?_
  rotate_left
  · intro w hSw
    obtain ⟨q1, q2, q3⟩ := hSw
    obtain ⟨x0, x1, x2, x3, y0, y1, y2, y3⟩ := q1.two
    simp only [kq] at x0 x1 x2 x3 y0 y1 y2 y3
    go_simp
    try with_reducible rfl
  try simp only [Act.put, List.setIfInBounds_toArray, List.set_cons_zero, List.set_cons_succ]
  refine wpAnyH_ready (rs := [7]) (by kernel_rfl) (by simp) ?_
  refine AllReadyH.cons (o := { dst := some 33, op := Op.call { callee := Callee.value (Operand.func 17), args := #[Operand.const (Value.int IntKind.i64 2), Operand.const (Value.string { data := #[97] }), Operand.const (Value.int IntKind.i64 0)], argTypes := #[3, 9, 3] }, type := 30, pos := "outright.go:20", after := #[{ on := 3, ground := Ground.chain }, { on := 3, ground := Ground.guard }], guard := some (3, true) }) rfl (fun K hK => ?_) AllReadyH.nil
  go_simp
  refine (wkey_lit 2 97 0 _).mono ?_
  rintro e w9 ⟨rfl, hb⟩
  go_wp2_with fail
  refine hK.out _ _ (And.intro (FiredAt.below hHeld.1 hb) (And.intro (hHeld.2.1.below hb (Nat.le_refl _)) (hHeld.2.2.trans (hb.mono hHeld.2.2.size)))) (fun hHeld => ?_)
  clear hK K
  try simp only [Act.put, List.setIfInBounds_toArray, List.set_cons_zero, List.set_cons_succ]
  refine wpAnyH_take (i := 8) (oi := { dst := some 34, op := Op.build 32 #[(0, Operand.const (Value.int IntKind.u64 4)), (1, Operand.tmp 33)], type := 32, pos := "outright.go:20", after := #[{ on := 7, ground := Ground.data }, { on := 3, ground := Ground.guard }], guard := some (3, true) }) (v := ?_) rfl (by kernel_rfl) (by kernel_rfl) (by kernel_rfl) (fun _ _ _ h => h) (Or.inl ⟨by rfl, ?_⟩) hHeld ?_
  rotate_left
  · intro w hSw
    clear hSw
    go_simp
    try with_reducible rfl
  try simp only [Act.put, List.setIfInBounds_toArray, List.set_cons_zero, List.set_cons_succ]
  refine wpAnyH_take (i := 9) (oi := { dst := some 35, op := Op.binOp BinOp.eql 32 (Operand.tmp 32) (Operand.tmp 34) 32, type := 4, pos := "outright.go:20", after := #[{ on := 6, ground := Ground.data }, { on := 8, ground := Ground.data }, { on := 3, ground := Ground.guard }], guard := some (3, true) }) (v := ?_) rfl (by kernel_rfl) (by kernel_rfl) (by kernel_rfl) (fun _ _ _ h => h) (Or.inl ⟨by rfl, ?_⟩) hHeld ?_
  rotate_left
  · intro w hSw
    clear hSw
    go_simp
    try with_reducible rfl
  try simp only [Act.put, List.setIfInBounds_toArray, List.set_cons_zero, List.set_cons_succ]
  refine wpAnyH_take (i := 10) (oi := { dst := some 36, op := Op.pick (Operand.tmp 29) (Operand.tmp 35) (Operand.const (Value.bool false)), type := 4, pos := "outright.go:20", after := #[{ on := 3, ground := Ground.data }, { on := 9, ground := Ground.data }], guard := none }) (v := ?_) rfl (by kernel_rfl) (by kernel_rfl) (by kernel_rfl) (fun _ _ _ h => h) (Or.inl ⟨by rfl, ?_⟩) hHeld ?_
  rotate_left
  · intro w hSw
    clear hSw
    go_simp
    try with_reducible rfl
  try simp only [Act.put, List.setIfInBounds_toArray, List.set_cons_zero, List.set_cons_succ]
  refine wpAnyH_take (i := 11) (oi := { dst := some 37, op := Op.move (Operand.tmp 36), type := 4, pos := "outright.go:20", after := #[{ on := 10, ground := Ground.data }, { on := 7, ground := Ground.chain }], guard := none }) (v := ?_) rfl (by kernel_rfl) (by kernel_rfl) (by kernel_rfl) (fun _ _ _ h => h) (Or.inl ⟨by rfl, ?_⟩) hHeld ?_
  rotate_left
  · intro w hSw
    clear hSw
    go_simp
    try with_reducible rfl
  try simp only [Act.put, List.setIfInBounds_toArray, List.set_cons_zero, List.set_cons_succ]
  refine wpAnyH_take (i := 12) (oi := { dst := some 38, op := Op.move (Operand.tmp 2), type := 25, pos := "outright.go:20", after := #[{ on := 11, ground := Ground.guard }], guard := some (11, true) }) (v := ?_) rfl (by kernel_rfl) (by kernel_rfl) (by kernel_rfl) (fun _ _ _ h => h) (Or.inl ⟨by rfl, ?_⟩) hHeld ?_
  rotate_left
  · intro w hSw
    clear hSw
    go_simp
    try with_reducible rfl
  try simp only [Act.put, List.setIfInBounds_toArray, List.set_cons_zero, List.set_cons_succ]
  refine wpAnyH_take (i := 13) (oi := { dst := some 39, op := Op.indexAddr 25 (Operand.tmp 38) (Operand.const (Value.int IntKind.i64 1)), type := 0, pos := "outright.go:20", after := #[{ on := 12, ground := Ground.data }, { on := 11, ground := Ground.guard }], guard := some (11, true) }) (v := ?_) rfl (by kernel_rfl) (by kernel_rfl) (by kernel_rfl) (fun _ _ _ h => h) (Or.inl ⟨by rfl, ?_⟩) hHeld ?_
  rotate_left
  · intro w hSw
    clear hSw
    go_simp
    try with_reducible rfl
  try simp only [Act.put, List.setIfInBounds_toArray, List.set_cons_zero, List.set_cons_succ]
  refine wpAnyH_take (i := 14) (oi := { dst := some 40, op := Op.load 32 (Operand.tmp 39), type := 32, pos := "outright.go:20", after := #[{ on := 13, ground := Ground.data }, { on := 11, ground := Ground.guard }], guard := some (11, true) }) (v := ?_) rfl (by kernel_rfl) (by kernel_rfl) (by kernel_rfl) (fun _ _ _ h => h) (Or.inl ⟨by rfl, ?_⟩) hHeld ?_
  rotate_left
  · intro w hSw
    obtain ⟨q1, q2, q3⟩ := hSw
    obtain ⟨x0, x1, x2, x3, y0, y1, y2, y3⟩ := q1.two
    simp only [kq] at x0 x1 x2 x3 y0 y1 y2 y3
    go_simp
    try with_reducible rfl
  try simp only [Act.put, List.setIfInBounds_toArray, List.set_cons_zero, List.set_cons_succ]
  refine wpAnyH_ready (rs := [15]) (by kernel_rfl) (by simp) ?_
  refine AllReadyH.cons (o := { dst := some 41, op := Op.call { callee := Callee.value (Operand.func 17), args := #[Operand.const (Value.int IntKind.i64 1), Operand.const (Value.string { data := #[98] }), Operand.const (Value.int IntKind.i64 0)], argTypes := #[3, 9, 3] }, type := 30, pos := "outright.go:20", after := #[{ on := 11, ground := Ground.chain }, { on := 11, ground := Ground.guard }], guard := some (11, true) }) rfl (fun K hK => ?_) AllReadyH.nil
  go_simp
  refine (wkey_lit 1 98 0 _).mono ?_
  rintro e w9 ⟨rfl, hb⟩
  go_wp2_with fail
  refine hK.out _ _ (And.intro (FiredAt.below hHeld.1 hb) (And.intro (hHeld.2.1.below hb (Nat.le_refl _)) (hHeld.2.2.trans (hb.mono hHeld.2.2.size)))) (fun hHeld => ?_)
  clear hK K
  try simp only [Act.put, List.setIfInBounds_toArray, List.set_cons_zero, List.set_cons_succ]
  refine wpAnyH_take (i := 16) (oi := { dst := some 42, op := Op.build 32 #[(0, Operand.const (Value.int IntKind.u64 5)), (1, Operand.tmp 41)], type := 32, pos := "outright.go:20", after := #[{ on := 15, ground := Ground.data }, { on := 11, ground := Ground.guard }], guard := some (11, true) }) (v := ?_) rfl (by kernel_rfl) (by kernel_rfl) (by kernel_rfl) (fun _ _ _ h => h) (Or.inl ⟨by rfl, ?_⟩) hHeld ?_
  rotate_left
  · intro w hSw
    clear hSw
    go_simp
    try with_reducible rfl
  try simp only [Act.put, List.setIfInBounds_toArray, List.set_cons_zero, List.set_cons_succ]
  refine wpAnyH_take (i := 17) (oi := { dst := some 43, op := Op.binOp BinOp.eql 32 (Operand.tmp 40) (Operand.tmp 42) 32, type := 4, pos := "outright.go:20", after := #[{ on := 14, ground := Ground.data }, { on := 16, ground := Ground.data }, { on := 11, ground := Ground.guard }], guard := some (11, true) }) (v := ?_) rfl (by kernel_rfl) (by kernel_rfl) (by kernel_rfl) (fun _ _ _ h => h) (Or.inl ⟨by rfl, ?_⟩) hHeld ?_
  rotate_left
  · intro w hSw
    clear hSw
    go_simp
    try with_reducible rfl
  try simp only [Act.put, List.setIfInBounds_toArray, List.set_cons_zero, List.set_cons_succ]
  refine wpAnyH_take (i := 18) (oi := { dst := some 44, op := Op.pick (Operand.tmp 37) (Operand.tmp 43) (Operand.const (Value.bool false)), type := 4, pos := "outright.go:20", after := #[{ on := 11, ground := Ground.data }, { on := 17, ground := Ground.data }], guard := none }) (v := ?_) rfl (by kernel_rfl) (by kernel_rfl) (by kernel_rfl) (fun _ _ _ h => h) (Or.inl ⟨by rfl, ?_⟩) hHeld ?_
  rotate_left
  · intro w hSw
    clear hSw
    go_simp
    try with_reducible rfl
  try simp only [Act.put, List.setIfInBounds_toArray, List.set_cons_zero, List.set_cons_succ]
  refine wpAnyH_take (i := 19) (oi := { dst := some 45, op := Op.move (Operand.tmp 44), type := 4, pos := "outright.go:20", after := #[{ on := 18, ground := Ground.data }, { on := 15, ground := Ground.chain }], guard := none }) (v := ?_) rfl (by kernel_rfl) (by kernel_rfl) (by kernel_rfl) (fun _ _ _ h => h) (Or.inl ⟨by rfl, ?_⟩) hHeld ?_
  rotate_left
  · intro w hSw
    clear hSw
    go_simp
    try with_reducible rfl
  try simp only [Act.put, List.setIfInBounds_toArray, List.set_cons_zero, List.set_cons_succ]
  refine wpAnyH_take (i := 20) (oi := { dst := some 46, op := Op.move (Operand.tmp 1), type := 23, pos := "outright.go:20", after := #[{ on := 19, ground := Ground.guard }], guard := some (19, true) }) (v := ?_) rfl (by kernel_rfl) (by kernel_rfl) (by kernel_rfl) (fun _ _ _ h => h) (Or.inl ⟨by rfl, ?_⟩) hHeld ?_
  rotate_left
  · intro w hSw
    clear hSw
    go_simp
    try with_reducible rfl
  try simp only [Act.put, List.setIfInBounds_toArray, List.set_cons_zero, List.set_cons_succ]
  refine wpAnyH_ready (rs := [21]) (by kernel_rfl) (by simp) ?_
  refine AllReadyH.cons (o := { dst := some 47, op := Op.call { callee := Callee.value (Operand.func 9), args := #[Operand.tmp 46], argTypes := #[23] }, type := 3, pos := "outright.go:20", after := #[{ on := 20, ground := Ground.data }, { on := 19, ground := Ground.chain }, { on := 19, ground := Ground.guard }], guard := some (19, true) }) rfl (fun K hK => ?_) AllReadyH.nil
  go_simp
  refine (wlen_any _ _ _ _ hHeld.2.1).mono ?_
  rintro e w9 ⟨rfl, hw9⟩
  rw [hw9]
  clear hw9
  go_wp2_with fail
  refine hK.out _ _ (hHeld) (fun hHeld => ?_)
  clear hK K
  try simp only [Act.put, List.setIfInBounds_toArray, List.set_cons_zero, List.set_cons_succ]
  refine wpAnyH_take (i := 22) (oi := { dst := some 48, op := Op.binOp BinOp.eql 3 (Operand.tmp 47) (Operand.const (Value.int IntKind.i64 0)) 3, type := 4, pos := "outright.go:20", after := #[{ on := 21, ground := Ground.data }, { on := 19, ground := Ground.guard }], guard := some (19, true) }) (v := ?_) rfl (by kernel_rfl) (by kernel_rfl) (by kernel_rfl) (fun _ _ _ h => h) (Or.inl ⟨by rfl, ?_⟩) hHeld ?_
  rotate_left
  · intro w hSw
    clear hSw
    go_simp
    try with_reducible rfl
  try simp only [Act.put, List.setIfInBounds_toArray, List.set_cons_zero, List.set_cons_succ]
  refine wpAnyH_take (i := 23) (oi := { dst := some 49, op := Op.pick (Operand.tmp 45) (Operand.tmp 48) (Operand.const (Value.bool false)), type := 4, pos := "outright.go:20", after := #[{ on := 19, ground := Ground.data }, { on := 22, ground := Ground.data }], guard := none }) (v := ?_) rfl (by kernel_rfl) (by kernel_rfl) (by kernel_rfl) (fun _ _ _ h => h) (Or.inl ⟨by rfl, ?_⟩) hHeld ?_
  rotate_left
  · intro w hSw
    clear hSw
    go_simp
    try with_reducible rfl
  try simp only [Act.put, List.setIfInBounds_toArray, List.set_cons_zero, List.set_cons_succ]
  refine wpAnyH_take (i := 24) (oi := { dst := some 0, op := Op.assign (Operand.tmp 49), type := 4, pos := "outright.go:20", after := #[{ on := 23, ground := Ground.data }, { on := 21, ground := Ground.chain }, { on := 0, ground := Ground.phase }, { on := 1, ground := Ground.phase }, { on := 2, ground := Ground.phase }, { on := 3, ground := Ground.phase }, { on := 4, ground := Ground.phase }, { on := 5, ground := Ground.phase }, { on := 6, ground := Ground.phase }, { on := 7, ground := Ground.phase }, { on := 8, ground := Ground.phase }, { on := 9, ground := Ground.phase }, { on := 10, ground := Ground.phase }, { on := 11, ground := Ground.phase }, { on := 12, ground := Ground.phase }, { on := 13, ground := Ground.phase }, { on := 14, ground := Ground.phase }, { on := 15, ground := Ground.phase }, { on := 16, ground := Ground.phase }, { on := 17, ground := Ground.phase }, { on := 18, ground := Ground.phase }, { on := 19, ground := Ground.phase }, { on := 20, ground := Ground.phase }, { on := 21, ground := Ground.phase }, { on := 22, ground := Ground.phase }, { on := 23, ground := Ground.phase }], guard := none }) (v := ?_) rfl (by kernel_rfl) (by kernel_rfl) (by kernel_rfl) (fun _ _ _ h => h) (Or.inl ⟨by rfl, ?_⟩) hHeld ?_
  rotate_left
  · intro w hSw
    clear hSw
    go_simp
    try with_reducible rfl
  try simp only [Act.put, List.setIfInBounds_toArray, List.set_cons_zero, List.set_cons_succ]
  refine wpAnyH_done (by kernel_rfl) ?_ _
  go_wp2_with fail
  go_ret
  exact ⟨rfl, hHeld.2.2⟩
end Go.Proofs.Ytcgegaahdbnacaa
