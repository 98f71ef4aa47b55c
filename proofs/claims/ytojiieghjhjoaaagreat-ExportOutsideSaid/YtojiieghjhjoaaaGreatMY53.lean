/-
  Several texts in one.
-/
import Derived.Test.YtojiieghjhjoaaaGreatMY52
import Derived.Test.YtojiieghjhjoaaaGreatMY24
set_option linter.unusedVariables false
set_option linter.unusedSimpArgs false
namespace Go.Proofs.YtojiieghjhjoaaaGreat
open Go.RowKit Go.MapKept Go.Shelf
open Go.Lib hiding intOf

/-- the three boxes of a law's arguments -/
structure Bu (w V : World) (s : Nat) (g : Cfg) (p : Pth) (t : Pr) : Prop where
  c : CellsAt V s g.us 24
  p : CellsAt V (s + 1) p.ar 37
  t : CellsAt V (s + 1 + 1) t.ar 40
  b : Below w.heap.size w V
  e : s = w.heap.size
  sz : s + 1 + 1 < V.heap.size
theorem Bu.below {w V V' : World} {s : Nat} {g : Cfg} {p : Pth} {t : Pr} (h : Bu w V s g p t) (hb : Below V.heap.size V V') : Bu w V' s g p t := ⟨h.c.below hb h.c.lt, h.p.below hb h.p.lt, h.t.below hb h.t.lt, h.b.trans (hb.mono h.b.size), h.e, Nat.lt_of_lt_of_le h.sz hb.size⟩
theorem Bu.start (w : World) (g : Cfg) (p : Pth) (t : Pr) : Bu w (((w.alloc (.cells g.us 24)).alloc (.cells p.ar 37)).alloc (.cells t.ar 40)) w.heap.size g p t := by
  refine ⟨(new1 _ _ _ _).alloc _, ?_, ?_, ?_, rfl, ?_⟩
  · exact (new2b _ _ _ _).alloc _
  · have h := CellsAt.new ((w.alloc (.cells g.us 24)).alloc (.cells p.ar 37)) t.ar 40
    rwa [show ((w.alloc (.cells g.us 24)).alloc (.cells p.ar 37)).heap.size = w.heap.size + 1 + 1 by simp] at h
  · exact (((Below.refl _ _).alloc (Nat.le_refl _) _).alloc (by simp) _).alloc (by simp <;> omega) _
  · simp
/-- what stays in memory through ExportMay's region -/
structure MS (w V : World) (s k : Nat) (g : Cfg) (p p' : Pth) (t : Pr) : Prop where
  bx : Bu w V s g p t
  q : CellsAt V k p'.ar 37
  po : PthOk V p
  qo : PthOk V p'
  tok : PrOk V t
theorem MS.below {w V V' : World} {s k : Nat} {g : Cfg} {p p' : Pth} {t : Pr} (h : MS w V s k g p p' t) (hb : Below V.heap.size V V') : MS w V' s k g p p' t := ⟨h.bx.below hb, h.q.below hb h.q.lt, h.po.below hb (Nat.le_refl _), h.qo.below hb (Nat.le_refl _), h.tok.below hb (Nat.le_refl _)⟩
theorem PthOk.withA {V : World} {p : Pth} {a : Atr} (h : PthOk V p) (ha : AtrOk V a) (hc : a.c = p.a.c) : PthOk V { p with a := a } := ⟨h.n, ha, by show AtrSz a.c; rw [hc]; exact h.sz, h.peer, h.kind, h.nums⟩
set_option maxRecDepth 100000 in
set_option maxHeartbeats 16000000 in
theorem exportmay_walk (g : Cfg) (p : Pth) (t : Pr) (w : World) (hg : g.Ok) (hp : PthOk w p) (ht : PrOk w t) : Calls Tryz.prog 3 #[.agg g.us, .agg p.ar, .agg t.ar] w fun e w' => e = .returned (.bool true) ∧ Below w.heap.size w w' := by
  have HOWN : Hid (∀ W, Below w.heap.size w W → Calls Tryz.prog 9 #[.agg p.ar] W fun e w' => (∃ a' : Atr, e = .returned (.agg ({ p with a := a' } : Pth).ar) ∧ AtO w' W.heap.size a' ∧ a'.c = p.a.c) ∧ Below W.heap.size W w') := fun W hW => own_any p W (hp.below hW (Nat.le_refl _))
  obtain ⟨r, hr⟩ : ∃ r, r = mayF g p t := ⟨_, rfl⟩
  have HCF := Lib.hid (conf_any g)
  have HM : Hid (∀ (W : World) (p' : Pth), PthOk W p' → PrOk W t → mayF g p' t = r → Calls Tryz.prog 10 #[.agg g.ar, .agg p'.ar, .agg t.ar] W fun e w' => e = .returned (.bool r) ∧ Below W.heap.size W w') := fun W p' h1 h2 h3 => by rw [← h3]; exact may_any g p' t W h1 h2
  have HRM : Hid (∀ (W : World), PthOk W p → PrOk W t → Calls Tryz.prog 12 #[.agg g.ar, .agg p.ar, .agg t.ar] W fun e w' => e = .returned (.bool r) ∧ Below W.heap.size W w') := fun W h1 h2 => by rw [hr]; exact rmay_any28 g p t W h1 h2
  have HSA : Hid (∀ (W : World) (a' : Atr), AtrOk W a' → AtrOk W p.a → a'.c = p.a.c → Calls Tryz.prog 13 #[.agg a'.ar, .agg p.a.ar] W fun e w' => e = .returned (.bool true) ∧ Below W.heap.size W w') := fun W a' h1 h2 hc => by
    have h := rsame_any a' p.a W h1 h2
    rwa [decide_eq_true hc] at h
  have HMF : Hid (∀ a' : Atr, a'.c = p.a.c → mayF g ({ p with a := a' } : Pth) t = r) := fun a' hc => by rw [hr]; unfold mayF mayPathF; rw [show ({ p with a := a' } : Pth).a.c = p.a.c from hc, show ({ p with a := a' } : Pth).a.comms = p.a.comms from congrArg AtC.comms hc]
  have HWK := Lib.hid works_any
  have HP := Lib.hid hp
  have HT := Lib.hid ht
  have z1 : (r == r) = true := beq_iff_eq.2 rfl
  clear hr hp ht hg
  go_enter Tryz.func3, Tryz.ntmps3
  go_upto_region 1 with fail
  refine rb_name fun V0 hV0 => ?_
  have hbx := Bu.start w g p t
  obtain ⟨s, hs⟩ : ∃ s, s = w.heap.size := ⟨_, rfl⟩
  have HB0 : Hid (Bu w V0 s g p t) := by rw [hV0, hs]; exact hbx
  have HS : Hid (s = w.heap.size) := hs
  rw [← hs]
  clear hV0 hbx hs
  go_wp2_with (with_reducible show wpList _ _ _ (_ :: _) _ _; refine wpList_load_path (by kernel_rfl) (.tmp 4) rfl (s + 1) rfl p (Lib.hid HB0.out.p) ?_)
  refine (HOWN.out _ HB0.out.b).mono ?_
  rintro e w1 ⟨⟨a', rfl, ho, hc⟩, hb⟩
  obtain ⟨p', hp'⟩ : ∃ p' : Pth, p' = { p with a := a' } := ⟨_, rfl⟩
  have HC : Hid (p'.a.c = p.a.c) := by rw [hp']; exact hc
  have HPA : Hid (mayF g p' t = r) := by rw [hp']; exact HMF.out a' hc
  have HB1 : Hid (Bu w w1 s g p t) := HB0.out.below hb
  have HP1 : Hid (PthOk w1 p) := HP.out.below HB1.out.b (Nat.le_refl _)
  have HQ1 : Hid (PthOk w1 p') := by rw [hp']; exact HP1.out.withA ho.ok hc
  have HT1 : Hid (PrOk w1 t) := HT.out.below HB1.out.b (Nat.le_refl _)
  rw [← hp']
  clear hp' ho hc hb HB0 HMF HOWN HP HT
  go_upto_region 2 with (with_reducible show wpList _ _ _ (_ :: _) _ _; refine wpList_new_row rfl _ (.tmp 7) (.tmp 9) rfl rfl p'.ar rfl 29 pathZ rfl rfl (pth_ones p') ?_)
  intro V3 HC3 HB3
  obtain ⟨k, hk⟩ : ∃ k, k = w1.heap.size := ⟨_, rfl⟩
  rw [← hk] at HC3
  have HMS : Hid (MS w V3 s k g p p' t) := ⟨HB1.out.below HB3.out, HC3.out, HP1.out.below HB3.out (Nat.le_refl _), HQ1.out.below HB3.out (Nat.le_refl _), HT1.out.below HB3.out (Nat.le_refl _)⟩
  rw [← hk]
  clear hk HC3 HB3 HB1 HP1 HQ1 HT1
  go_upto_region 2 with fail
  refine wp_region_held_drew (S := fun w' => MS w w' s k g p p' t) (by kernel_rfl) (HMS.out.below (below_drewN (Below.refl _ _) 1)) (fun hHeld => ?_)
  refine wpAnyH_take (i := 0) (oi := { dst := some 10, op := Op.load 24 (Operand.tmp 3), type := 24, pos := "law.go:51", after := #[], guard := none }) (v := .agg g.us) rfl (by kernel_rfl) (by kernel_rfl) (by kernel_rfl) (fun _ _ _ h => h) (yields_row (by rfl) _ _ rfl s 0 (by rfl) g.us usS 5 usZ rfl (fun w h => whole_range h.bx.c)) hHeld ?_
  try simp only [Act.put, List.setIfInBounds_toArray, List.set_cons_zero, List.set_cons_succ]
  refine wpAnyH_take (i := 2) (oi := { dst := some 12, op := Op.load 37 (Operand.tmp 7), type := 37, pos := "law.go:51", after := #[], guard := none }) (v := .agg p'.ar) rfl (by kernel_rfl) (by kernel_rfl) (by kernel_rfl) (fun _ _ _ h => h) (yields_row (by rfl) _ _ rfl k 0 (by rfl) p'.ar pathS 29 pathZ rfl (fun w h => whole_range h.q)) hHeld ?_
  try simp only [Act.put, List.setIfInBounds_toArray, List.set_cons_zero, List.set_cons_succ]
  refine wpAnyH_take (i := 3) (oi := { dst := some 13, op := Op.load 40 (Operand.tmp 5), type := 40, pos := "law.go:51", after := #[], guard := none }) (v := .agg t.ar) rfl (by kernel_rfl) (by kernel_rfl) (by kernel_rfl) (fun _ _ _ h => h) (yields_row (by rfl) _ _ rfl (s + 1 + 1) 0 (by rfl) t.ar peerS 23 peerZ rfl (fun w h => whole_range h.bx.t)) hHeld ?_
  try simp only [Act.put, List.setIfInBounds_toArray, List.set_cons_zero, List.set_cons_succ]
  refine wpAnyH_take (i := 5) (oi := { dst := some 15, op := Op.load 24 (Operand.tmp 3), type := 24, pos := "law.go:51", after := #[], guard := none }) (v := .agg g.us) rfl (by kernel_rfl) (by kernel_rfl) (by kernel_rfl) (fun _ _ _ h => h) (yields_row (by rfl) _ _ rfl s 0 (by rfl) g.us usS 5 usZ rfl (fun w h => whole_range h.bx.c)) hHeld ?_
  try simp only [Act.put, List.setIfInBounds_toArray, List.set_cons_zero, List.set_cons_succ]
  refine wpAnyH_take (i := 7) (oi := { dst := some 17, op := Op.load 37 (Operand.tmp 4), type := 37, pos := "law.go:51", after := #[], guard := none }) (v := .agg p.ar) rfl (by kernel_rfl) (by kernel_rfl) (by kernel_rfl) (fun _ _ _ h => h) (yields_row (by rfl) _ _ rfl (s + 1) 0 (by rfl) p.ar pathS 29 pathZ rfl (fun w h => whole_range h.bx.p)) hHeld ?_
  try simp only [Act.put, List.setIfInBounds_toArray, List.set_cons_zero, List.set_cons_succ]
  refine wpAnyH_take (i := 8) (oi := { dst := some 18, op := Op.load 40 (Operand.tmp 5), type := 40, pos := "law.go:51", after := #[], guard := none }) (v := .agg t.ar) rfl (by kernel_rfl) (by kernel_rfl) (by kernel_rfl) (fun _ _ _ h => h) (yields_row (by rfl) _ _ rfl (s + 1 + 1) 0 (by rfl) t.ar peerS 23 peerZ rfl (fun w h => whole_range h.bx.t)) hHeld ?_
  try simp only [Act.put, List.setIfInBounds_toArray, List.set_cons_zero, List.set_cons_succ]
  refine wpAnyH_ready (rs := [1]) (by kernel_rfl) (by simp) ?_
  refine AllReadyH.cons (o := { dst := some 11, op := Op.call { callee := Callee.value (Operand.func 11), args := #[Operand.tmp 10], argTypes := #[24] }, type := 49, pos := "law.go:51", after := #[{ on := 0, ground := Ground.data }], guard := none }) rfl (fun K hK => ?_) AllReadyH.nil
  go_simp
  refine (HCF.out _).mono ?_
  rintro e w2 ⟨rfl, hb2⟩
  have HS2 := Lib.hid hHeld
  refine hK.out _ _ (HS2.out.below hb2) (fun hHeld => ?_)
  clear hK K
  try simp only [Act.put, List.setIfInBounds_toArray, List.set_cons_zero, List.set_cons_succ]
  refine wpAnyH_ready (rs := [4]) (by kernel_rfl) (by simp) ?_
  refine AllReadyH.cons (o := { dst := some 14, op := Op.call { callee := Callee.value (Operand.func 10), args := #[Operand.tmp 11, Operand.tmp 12, Operand.tmp 13], argTypes := #[49, 37, 40] }, type := 4, pos := "law.go:51", after := #[{ on := 1, ground := Ground.data }, { on := 2, ground := Ground.data }, { on := 3, ground := Ground.data }, { on := 1, ground := Ground.chain }], guard := none }) rfl (fun K hK => ?_) AllReadyH.nil
  go_simp
  refine (HM.out _ p' hHeld.qo hHeld.tok HPA.out).mono ?_
  rintro e w3 ⟨rfl, hb3⟩
  have HS3 := Lib.hid hHeld
  refine hK.out _ _ (HS3.out.below hb3) (fun hHeld => ?_)
  clear hK K
  try simp only [Act.put, List.setIfInBounds_toArray, List.set_cons_zero, List.set_cons_succ]
  refine wpAnyH_ready (rs := [6]) (by kernel_rfl) (by simp) ?_
  refine AllReadyH.cons (o := { dst := some 16, op := Op.call { callee := Callee.value (Operand.func 11), args := #[Operand.tmp 15], argTypes := #[24] }, type := 49, pos := "law.go:51", after := #[{ on := 5, ground := Ground.data }, { on := 4, ground := Ground.chain }], guard := none }) rfl (fun K hK => ?_) AllReadyH.nil
  go_simp
  refine (HCF.out _).mono ?_
  rintro e w4 ⟨rfl, hb4⟩
  have HS4 := Lib.hid hHeld
  refine hK.out _ _ (HS4.out.below hb4) (fun hHeld => ?_)
  clear hK K
  try simp only [Act.put, List.setIfInBounds_toArray, List.set_cons_zero, List.set_cons_succ]
  refine wpAnyH_ready (rs := [9]) (by kernel_rfl) (by simp) ?_
  refine AllReadyH.cons (o := { dst := some 19, op := Op.call { callee := Callee.value (Operand.func 12), args := #[Operand.tmp 16, Operand.tmp 17, Operand.tmp 18], argTypes := #[49, 37, 40] }, type := 4, pos := "law.go:51", after := #[{ on := 6, ground := Ground.data }, { on := 7, ground := Ground.data }, { on := 8, ground := Ground.data }, { on := 6, ground := Ground.chain }], guard := none }) rfl (fun K hK => ?_) AllReadyH.nil
  go_simp
  refine (HRM.out _ hHeld.po hHeld.tok).mono ?_
  rintro e w5 ⟨rfl, hb5⟩
  have HS5 := Lib.hid hHeld
  refine hK.out _ _ (HS5.out.below hb5) (fun hHeld => ?_)
  clear hK K
  try simp only [Act.put, List.setIfInBounds_toArray, List.set_cons_zero, List.set_cons_succ]
  refine wpAnyH_take (i := 10) (oi := { dst := some 20, op := Op.binOp BinOp.eql 4 (Operand.tmp 14) (Operand.tmp 19) 4, type := 4, pos := "law.go:51", after := #[{ on := 4, ground := Ground.data }, { on := 9, ground := Ground.data }], guard := none }) (v := ?_) rfl (by kernel_rfl) (by kernel_rfl) (by kernel_rfl) (fun _ _ _ h => h) (Or.inl ⟨by rfl, ?_⟩) hHeld ?_
  rotate_left
  · intro w hSw
    clear hSw
    go_simp
    try with_reducible rfl
  try simp only [Act.put, List.setIfInBounds_toArray, List.set_cons_zero, List.set_cons_succ]
  refine wpAnyH_take (i := 11) (oi := { dst := some 21, op := Op.move (Operand.tmp 20), type := 4, pos := "law.go:51", after := #[{ on := 10, ground := Ground.data }, { on := 9, ground := Ground.chain }], guard := none }) (v := ?_) rfl (by kernel_rfl) (by kernel_rfl) (by kernel_rfl) (fun _ _ _ h => h) (Or.inl ⟨by rfl, ?_⟩) hHeld ?_
  rotate_left
  · intro w hSw
    clear hSw
    go_simp
    try with_reducible rfl
  try simp only [Act.put, List.setIfInBounds_toArray, List.set_cons_zero, List.set_cons_succ]
  refine wpAnyH_take (i := 12) (oi := { dst := some 22, op := Op.fieldAddr 37 (Operand.tmp 7) 3, type := 0, pos := "law.go:51", after := #[{ on := 11, ground := Ground.guard }], guard := some (11, true) }) (v := ?_) rfl (by kernel_rfl) (by kernel_rfl) (by kernel_rfl) (fun _ _ _ h => h) (Or.inl ⟨by rfl, ?_⟩) hHeld ?_
  rotate_left
  · intro w hSw
    clear hSw
    go_simp
    try with_reducible rfl
  try simp only [Act.put, List.setIfInBounds_toArray, List.set_cons_zero, List.set_cons_succ]
  refine wpAnyH_take (i := 13) (oi := { dst := some 23, op := Op.load 33 (Operand.tmp 22), type := 33, pos := "law.go:51", after := #[{ on := 12, ground := Ground.data }, { on := 11, ground := Ground.guard }], guard := some (11, true) }) (v := .agg p'.a.ar) rfl (by kernel_rfl) (by kernel_rfl) (by kernel_rfl) (fun _ _ _ h => h) (yields_row (by rfl) _ _ rfl k 6 (by rfl) p'.a.ar atS 16 atZ rfl (fun w h => pth_at h.q)) hHeld ?_
  try simp only [Act.put, List.setIfInBounds_toArray, List.set_cons_zero, List.set_cons_succ]
  refine wpAnyH_take (i := 14) (oi := { dst := some 24, op := Op.fieldAddr 37 (Operand.tmp 4) 3, type := 0, pos := "law.go:51", after := #[{ on := 11, ground := Ground.guard }], guard := some (11, true) }) (v := ?_) rfl (by kernel_rfl) (by kernel_rfl) (by kernel_rfl) (fun _ _ _ h => h) (Or.inl ⟨by rfl, ?_⟩) hHeld ?_
  rotate_left
  · intro w hSw
    clear hSw
    go_simp
    try with_reducible rfl
  try simp only [Act.put, List.setIfInBounds_toArray, List.set_cons_zero, List.set_cons_succ]
  refine wpAnyH_take (i := 15) (oi := { dst := some 25, op := Op.load 33 (Operand.tmp 24), type := 33, pos := "law.go:51", after := #[{ on := 14, ground := Ground.data }, { on := 11, ground := Ground.guard }], guard := some (11, true) }) (v := .agg p.a.ar) rfl (by kernel_rfl) (by kernel_rfl) (by kernel_rfl) (fun _ _ _ h => h) (yields_row (by rfl) _ _ rfl (s + 1) 6 (by rfl) p.a.ar atS 16 atZ rfl (fun w h => pth_at h.bx.p)) hHeld ?_
  try simp only [Act.put, List.setIfInBounds_toArray, List.set_cons_zero, List.set_cons_succ]
  refine wpAnyH_ready (rs := [16]) (by kernel_rfl) (by simp) ?_
  refine AllReadyH.cons (o := { dst := some 26, op := Op.call { callee := Callee.value (Operand.func 13), args := #[Operand.tmp 23, Operand.tmp 25], argTypes := #[33, 33] }, type := 4, pos := "law.go:51", after := #[{ on := 13, ground := Ground.data }, { on := 15, ground := Ground.data }, { on := 11, ground := Ground.chain }, { on := 11, ground := Ground.guard }], guard := some (11, true) }) rfl (fun K hK => ?_) AllReadyH.nil
  go_simp
  refine (HSA.out _ p'.a hHeld.qo.a hHeld.po.a HC.out).mono ?_
  rintro e w6 ⟨rfl, hb6⟩
  have HS6 := Lib.hid hHeld
  refine hK.out _ _ (HS6.out.below hb6) (fun hHeld => ?_)
  clear hK K
  try simp only [Act.put, List.setIfInBounds_toArray, List.set_cons_zero, List.set_cons_succ]
  refine wpAnyH_take (i := 17) (oi := { dst := some 27, op := Op.pick (Operand.tmp 21) (Operand.tmp 26) (Operand.const (Value.bool false)), type := 4, pos := "law.go:51", after := #[{ on := 11, ground := Ground.data }, { on := 16, ground := Ground.data }], guard := none }) (v := ?_) rfl (by kernel_rfl) (by kernel_rfl) (by kernel_rfl) (fun _ _ _ h => h) (Or.inl ⟨by rfl, ?_⟩) hHeld ?_
  rotate_left
  · intro w hSw
    clear hSw
    go_simp
    try with_reducible rfl
  try simp only [Act.put, List.setIfInBounds_toArray, List.set_cons_zero, List.set_cons_succ]
  refine wpAnyH_take (i := 18) (oi := { dst := some 28, op := Op.move (Operand.tmp 27), type := 4, pos := "law.go:51", after := #[{ on := 17, ground := Ground.data }, { on := 16, ground := Ground.chain }], guard := none }) (v := ?_) rfl (by kernel_rfl) (by kernel_rfl) (by kernel_rfl) (fun _ _ _ h => h) (Or.inl ⟨by rfl, ?_⟩) hHeld ?_
  rotate_left
  · intro w hSw
    clear hSw
    go_simp
    try with_reducible rfl
  try simp only [Act.put, List.setIfInBounds_toArray, List.set_cons_zero, List.set_cons_succ]
  refine wpAnyH_ready (rs := [19]) (by kernel_rfl) (by simp) ?_
  refine AllReadyH.cons (o := { dst := some 29, op := Op.call { callee := Callee.value (Operand.func 14), args := #[], argTypes := #[] }, type := 4, pos := "law.go:51", after := #[{ on := 18, ground := Ground.chain }, { on := 18, ground := Ground.guard }], guard := some (18, true) }) rfl (fun K hK => ?_) AllReadyH.nil
  go_simp
  refine (HWK.out _).mono ?_
  rintro e w7 ⟨rfl, hb7⟩
  have HS7 := Lib.hid hHeld
  refine hK.out _ _ (HS7.out.below hb7) (fun hHeld => ?_)
  clear hK K
  try simp only [Act.put, List.setIfInBounds_toArray, List.set_cons_zero, List.set_cons_succ]
  refine wpAnyH_take (i := 20) (oi := { dst := some 30, op := Op.pick (Operand.tmp 28) (Operand.tmp 29) (Operand.const (Value.bool false)), type := 4, pos := "law.go:51", after := #[{ on := 18, ground := Ground.data }, { on := 19, ground := Ground.data }], guard := none }) (v := ?_) rfl (by kernel_rfl) (by kernel_rfl) (by kernel_rfl) (fun _ _ _ h => h) (Or.inl ⟨by rfl, ?_⟩) hHeld ?_
  rotate_left
  · intro w hSw
    clear hSw
    go_simp
    try with_reducible rfl
  try simp only [Act.put, List.setIfInBounds_toArray, List.set_cons_zero, List.set_cons_succ]
  refine wpAnyH_take (i := 21) (oi := { dst := some 6, op := Op.assign (Operand.tmp 30), type := 4, pos := "law.go:51", after := #[{ on := 20, ground := Ground.data }, { on := 19, ground := Ground.chain }, { on := 0, ground := Ground.phase }, { on := 1, ground := Ground.phase }, { on := 2, ground := Ground.phase }, { on := 3, ground := Ground.phase }, { on := 4, ground := Ground.phase }, { on := 5, ground := Ground.phase }, { on := 6, ground := Ground.phase }, { on := 7, ground := Ground.phase }, { on := 8, ground := Ground.phase }, { on := 9, ground := Ground.phase }, { on := 10, ground := Ground.phase }, { on := 11, ground := Ground.phase }, { on := 12, ground := Ground.phase }, { on := 13, ground := Ground.phase }, { on := 14, ground := Ground.phase }, { on := 15, ground := Ground.phase }, { on := 16, ground := Ground.phase }, { on := 17, ground := Ground.phase }, { on := 18, ground := Ground.phase }, { on := 19, ground := Ground.phase }, { on := 20, ground := Ground.phase }], guard := none }) (v := ?_) rfl (by kernel_rfl) (by kernel_rfl) (by kernel_rfl) (fun _ _ _ h => h) (Or.inl ⟨by rfl, ?_⟩) hHeld ?_
  rotate_left
  · intro w hSw
    clear hSw
    go_simp
    try with_reducible rfl
  try simp only [Act.put, List.setIfInBounds_toArray, List.set_cons_zero, List.set_cons_succ]
  refine wpAnyH_done (by kernel_rfl) ?_ _
  have HE := Lib.hid hHeld
  clear hHeld
  go_wp2_with fail
  go_ret
  exact ⟨rfl, HE.out.bx.b⟩
end Go.Proofs.YtojiieghjhjoaaaGreat
