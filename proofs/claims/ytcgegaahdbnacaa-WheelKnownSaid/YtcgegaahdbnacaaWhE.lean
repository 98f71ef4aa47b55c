/-
  Timers: the comparison by which they are sorted; what is due; whose they are. Conditions: sizes.
-/
import Derived.Test.YtcgegaahdbnacaaWhD
import Derived.Test.YtcgegaahdbnacaaShelf
import Derived.Test.YtcgegaahdbnacaaShelfB
import Derived.StillTailTactics
import Derived.Deep.QuietTactic
import Derived.BigQuiet
set_option linter.unusedVariables false
set_option linter.unusedSimpArgs false
namespace Go.Proofs.Ytcgegaahdbnacaa
open Go.RowKit Go.MapKept Go.Shelf Go.Lib
open Go.Sort hiding Below
open Go.Maps (Keyed)
open Go.Op (bytesLess)

def cS (a b : ByteArray) : Int := if bytesLess a.toList b.toList then -1 else if bytesLess b.toList a.toList then 1 else 0
theorem nanU (x : Int) (w : World) : Calls Try.prog 44 #[.int .u64 x] w fun e w' => e = .returned (.bool false) ∧ w' = w := by
  go_enter Try.func44, Try.ntmps44
  go_wp2_with fail
  go_ret
  exact ⟨by simp, rfl⟩
theorem nanS (x : ByteArray) (w : World) : Calls Try.prog 46 #[.string x] w fun e w' => e = .returned (.bool false) ∧ w' = w := by
  go_enter Try.func46, Try.ntmps46
  go_wp2_with fail
  go_ret
  exact ⟨by simp, rfl⟩
set_option maxHeartbeats 1000000 in
theorem cmpU (x y : Int) (w : World) : Calls Try.prog 37 #[.int .u64 x, .int .u64 y] w fun e w' => e = .returned (.int .i64 (Lib.compareInt x y)) ∧ w' = w := by
  go_enter Try.func37, Try.ntmps37
  go_wp2_with (refine (nanU _ _).mono ?_; rintro e w' ⟨rfl, hw⟩; rw [hw])
  all_goals (go_ret; refine ⟨?_, rfl⟩; unfold Lib.compareInt; (repeat' split) <;> first | rfl | (exfalso; omega))
set_option maxHeartbeats 1000000 in
theorem cmpS (x y : ByteArray) (w : World) : Calls Try.prog 39 #[.string x, .string y] w fun e w' => e = .returned (.int .i64 (cS x y)) ∧ w' = w := by
  rcases bl_total x.toList y.toList with h | h | h
  · have hr : Hid (cS x y = -1) := by show _ = _; unfold cS; rw [if_pos h]
    go_enter Try.func39, Try.ntmps39
    go_wp2_with (refine (nanS _ _).mono ?_; rintro e w' ⟨rfl, hw⟩; rw [hw])
    go_ret
    exact ⟨ret_int hr.out.symm, rfl⟩
  · have h0 := bl_irrefl x.toList
    have hr : Hid (cS x y = 0) := by show _ = _; unfold cS; rw [← h, h0]; rfl
    have hxy := toList_inj h
    subst hxy
    clear h
    go_enter Try.func39, Try.ntmps39
    go_wp2_with (refine (nanS _ _).mono ?_; rintro e w' ⟨rfl, hw⟩; rw [hw])
    go_ret
    exact ⟨ret_int hr.out.symm, rfl⟩
  · have h1 := bl_asymm h
    have hr : Hid (cS x y = 1) := by show _ = _; unfold cS; rw [h1, h]; rfl
    have hne : (x.toList == y.toList) = false := by
      rw [beq_eq_false_iff_ne]
      intro e
      rw [e, bl_irrefl] at h
      cases h
    go_enter Try.func39, Try.ntmps39
    go_wp2_with (refine (nanS _ _).mono ?_; rintro e w' ⟨rfl, hw⟩; rw [hw])
    go_ret
    exact ⟨ret_int hr.out.symm, rfl⟩

def or4 (a b c d : Int) : Int := if a ≠ 0 then a else if b ≠ 0 then b else if c ≠ 0 then c else d
def l4 (a b c d : Int) (j : Nat) : Int := if j = 0 then a else if j = 1 then b else if j = 2 then c else d
theorem or4_at {a b c d : Int} {j : Nat} (hj : j < 4) (h : ∀ i, i < j → l4 a b c d i = 0) (hn : ¬ l4 a b c d j = 0) : or4 a b c d = l4 a b c d j := by
  have h0 := h 0
  have h1 := h 1
  have h2 := h 2
  simp only [l4, or4] at *
  rcases (show j = 0 ∨ j = 1 ∨ j = 2 ∨ j = 3 by omega) with rfl | rfl | rfl | rfl
  · simp at hn ⊢; simp [hn]
  · simp at hn h0 ⊢; simp [h0, hn]
  · simp at hn h0 h1 ⊢; simp [h0, h1, hn]
  · simp at hn h0 h1 h2 ⊢; simp [h0, h1, h2]
theorem or4_no {a b c d : Int} (h : ∀ i, i < 4 → l4 a b c d i = 0) : or4 a b c d = 0 := by
  have h0 := h 0 (by omega)
  have h1 := h 1 (by omega)
  have h2 := h 2 (by omega)
  have h3 := h 3 (by omega)
  simp [l4] at h0 h1 h2 h3
  simp [or4, h0, h1, h2, h3]
set_option maxHeartbeats 1000000 in
theorem or_any (g : Nat) (cap : Nat) (a b c d : Int) (w : World) (T : TypeId) (h : CellsAt w g #[.int .i64 a, .int .i64 b, .int .i64 c, .int .i64 d] T) : Calls Try.prog 36 #[.slice (some ⟨g, 0, none⟩) 4 cap] w fun e w' => e = .returned (.int .i64 (or4 a b c d)) ∧ w' = w := by
  have hc : ∀ j : Nat, j < 4 → w.cell? ⟨g, j, none⟩ = some (.int .i64 (l4 a b c d j)) := fun j hj => by
    obtain ⟨c0, c1, c2, c3⟩ := h.c4
    rcases (show j = 0 ∨ j = 1 ∨ j = 2 ∨ j = 3 by omega) with rfl | rfl | rfl | rfl
    · exact c0
    · exact c1
    · exact c2
    · exact c3
  have HC := Lib.hid hc
  clear hc h
  go_enter Try.func36, Try.ntmps36
  go_wp2_with fail
  go_loop [8] (fun x => ∃ j : Nat, j ≤ 4 ∧ x = .int .i64 j ∧ Hid (∀ i, i < j → l4 a b c d i = 0)) (fun x => 5 - (intOf x).toNat)
  case atStart => exact ⟨0, by omega, rfl, fun i hi => absurd hi (by omega)⟩
  case round =>
    obtain ⟨j, hj, rfl, HZ⟩ := hrel
    by_cases hlt : j < 4
    · have hcell := HC.out j hlt
      by_cases hz : l4 a b c d j = 0
      · have HZ2 : Hid (∀ i, i < j + 1 → l4 a b c d i = 0) := fun i hi => by
          by_cases e : i = j
          · subst e; exact hz
          · exact HZ.out i (by omega)
        rw [hz] at hcell
        clear HZ hz
        go_wp2_with fail
        exact ⟨⟨j + 1, by omega, by go_num, HZ2⟩, by simp [intOf]; omega⟩
      · have HR := Lib.hid (or4_at hlt HZ.out hz)
        have e1 : (l4 a b c d j == 0) = false := by rw [beq_eq_false_iff_ne]; exact hz
        have e2 : (l4 a b c d j != 0) = true := by rw [bne, e1]; rfl
        clear HZ
        generalize l4 a b c d j = z at *
        go_wp2_with fail
        go_ret
        exact ⟨ret_int HR.out.symm, rfl⟩
    · obtain rfl : j = 4 := by omega
      have HR := Lib.hid (or4_no HZ.out)
      clear HZ
      go_wp2_with fail
      go_ret
      exact ⟨ret_int HR.out.symm, rfl⟩

def encT (x : Tm) : List Value := [.int .u64 (x.at_ : Nat), .int .i64 x.k.kind, .string x.k.peer, .int .i64 x.k.fam]
def cfT (x y : Tm) : Int := or4 (Lib.compareInt x.at_ y.at_) (Lib.compareInt x.k.kind y.k.kind) (cS x.k.peer y.k.peer) (Lib.compareInt x.k.fam y.k.fam)
set_option maxRecDepth 100000 in
set_option maxHeartbeats 4000000 in
theorem cmp_clo (x y : Tm) (w : World) : Calls Try.prog 35 #[.agg (encT x).toArray, .agg (encT y).toArray] w fun e w' => e = .returned (.int .i64 (cfT x y)) ∧ ∃ q os', w' = grow (w.drewN q) os' := by
  obtain ⟨xa, ⟨xk, xp, xf⟩⟩ := x
  obtain ⟨ya, ⟨yk, yp, yf⟩⟩ := y
  have HU := Lib.hid (fun w => cmpU (xa : Int) ya w)
  have HI1 := Lib.hid (fun w => Try.cmp_Compare_int xk yk w)
  have HS := Lib.hid (fun w => cmpS xp yp w)
  have HI2 := Lib.hid (fun w => Try.cmp_Compare_int xf yf w)
  have HR : Hid (cfT ⟨xa, xk, xp, xf⟩ ⟨ya, yk, yp, yf⟩ = or4 (Lib.compareInt xa ya) (Lib.compareInt xk yk) (cS xp yp) (Lib.compareInt xf yf)) := rfl
  generalize Lib.compareInt (xa : Int) ya = c1 at HU HR
  generalize Lib.compareInt xk yk = c2 at HI1 HR
  generalize cS xp yp = c3 at HS HR
  generalize Lib.compareInt xf yf = c4 at HI2 HR
  unfold encT
  go_enter Try.func35, Try.ntmps35
  go_wp2_with fail
  have HB1 := Lib.hid ((CellsAt.new w #[.int .u64 (xa : Nat), .int .i64 xk, .string xp, .int .i64 xf] 32).alloc (.cells #[.int .u64 (ya : Nat), .int .i64 yk, .string yp, .int .i64 yf] 32))
  have HB2 := Lib.hid (CellsAt.new (w.alloc (.cells #[.int .u64 (xa : Nat), .int .i64 xk, .string xp, .int .i64 xf] 32)) #[.int .u64 (ya : Nat), .int .i64 yk, .string yp, .int .i64 yf] 32)
  rw [World.size_alloc] at HB2
  have HWW : Hid ((w.alloc (.cells #[.int .u64 (xa : Nat), .int .i64 xk, .string xp, .int .i64 xf] 32)).alloc (.cells #[.int .u64 (ya : Nat), .int .i64 yk, .string yp, .int .i64 yf] 32) = grow w #[.cells #[.int .u64 (xa : Nat), .int .i64 xk, .string xp, .int .i64 xf] 32, .cells #[.int .u64 (ya : Nat), .int .i64 yk, .string yp, .int .i64 yf] 32]) := by
    show _ = _
    rw [alloc_eq_grow, alloc_eq_grow, grow_grow]
    rfl
  have HSZ : ((w.alloc (.cells #[.int .u64 (xa : Nat), .int .i64 xk, .string xp, .int .i64 xf] 32)).alloc (.cells #[.int .u64 (ya : Nat), .int .i64 yk, .string yp, .int .i64 yf] 32)).heap.size = w.heap.size + 2 := by simp
  generalize (w.alloc (.cells #[.int .u64 (xa : Nat), .int .i64 xk, .string xp, .int .i64 xf] 32)).alloc (.cells #[.int .u64 (ya : Nat), .int .i64 yk, .string yp, .int .i64 yf] 32) = w2 at HB1 HB2 HWW HSZ ⊢
  obtain ⟨x0, x1, x2, x3⟩ := HB1.out.c4
  obtain ⟨y0, y1, y2, y3⟩ := HB2.out.c4
  go_still_tail 26, (by kernel_rfl)
  still_call (HU.out _)
  repeat still_step
  still_call (HI1.out _)
  repeat still_step
  still_call (HS.out _)
  repeat still_step
  still_call (HI2.out _)
  repeat still_step
  refine wpStill_nil ?_
  change wpList _ _ _ _ _ w2.drew
  have HC4 := Lib.hid ((CellsAt.new w2 #[.int .i64 c1, .int .i64 c2, .int .i64 c3, .int .i64 c4] 3).drew 1)
  rw [HSZ] at HC4
  go_wp2_with fail
  refine (or_any (w.heap.size + 2) 4 c1 c2 c3 c4 _ _ HC4.out).mono ?_
  rintro e w' ⟨rfl, hw⟩
  have hw := hw.symm
  subst hw
  clear x0 x1 x2 x3 y0 y1 y2 y3
  go_wp2_with fail
  go_ret
  refine ⟨ret_int HR.out.symm, 1, #[.cells #[.int .u64 (xa : Nat), .int .i64 xk, .string xp, .int .i64 xf] 32, .cells #[.int .u64 (ya : Nat), .int .i64 yk, .string yp, .int .i64 yf] 32, .cells #[.int .i64 c1, .int .i64 c2, .int .i64 c3, .int .i64 c4] 3], ?_⟩
  rw [alloc_eq_grow, HWW.out]
  show (grow (grow w _) _).drew = _
  rw [grow_grow]
  rfl

theorem ltOf_cfT (x y : Tm) : ltOf cfT x y = tlt x y := by
  have ci : ∀ a b : Int, (a < b ∧ Lib.compareInt a b = -1) ∨ (a = b ∧ Lib.compareInt a b = 0) ∨ (b < a ∧ Lib.compareInt a b = 1) := fun a b => by
    unfold Lib.compareInt
    by_cases h1 : a < b
    · exact Or.inl ⟨h1, by rw [if_pos h1]⟩
    · by_cases h2 : b < a
      · exact Or.inr (Or.inr ⟨h2, by rw [if_neg h1, if_pos h2]⟩)
      · exact Or.inr (Or.inl ⟨by omega, by rw [if_neg h1, if_neg h2]⟩)
  have cs : (bytesLess x.k.peer.toList y.k.peer.toList = true ∧ cS x.k.peer y.k.peer = -1) ∨ (bytesLess x.k.peer.toList y.k.peer.toList = false ∧ x.k.peer.toList = y.k.peer.toList ∧ cS x.k.peer y.k.peer = 0) ∨ (bytesLess x.k.peer.toList y.k.peer.toList = false ∧ x.k.peer.toList ≠ y.k.peer.toList ∧ cS x.k.peer y.k.peer = 1) := by
    unfold cS
    rcases bl_total x.k.peer.toList y.k.peer.toList with h | h | h
    · exact Or.inl ⟨h, by rw [if_pos h]⟩
    · rw [h, bl_irrefl]
      exact Or.inr (Or.inl ⟨rfl, rfl, rfl⟩)
    · refine Or.inr (Or.inr ⟨bl_asymm h, fun e => ?_, ?_⟩)
      · rw [e, bl_irrefl] at h; cases h
      · rw [bl_asymm h, if_neg (by simp), if_pos h]
  unfold ltOf cfT tlt
  rcases ci x.at_ y.at_ with ⟨h1, e1⟩ | ⟨h1, e1⟩ | ⟨h1, e1⟩ <;> rw [e1]
  · have : x.at_ < y.at_ := by omega
    simp [or4, this]
  · have a1 : ¬ x.at_ < y.at_ := by omega
    have a2 : x.at_ = y.at_ := by omega
    rcases ci x.k.kind y.k.kind with ⟨h2, e2⟩ | ⟨h2, e2⟩ | ⟨h2, e2⟩ <;> rw [e2]
    · simp [or4, a1, a2, h2]
    · rcases cs with ⟨h3, e3⟩ | ⟨h3, h3', e3⟩ | ⟨h3, h3', e3⟩ <;> rw [e3]
      · simp [or4, a1, a2, h2, h3]
      · rcases ci x.k.fam y.k.fam with ⟨h4, e4⟩ | ⟨h4, e4⟩ | ⟨h4, e4⟩ <;> rw [e4]
        · simp [or4, a1, a2, h2, h3, h3', h4, bl_irrefl]
        · simp [or4, a1, a2, h2, h3, h3', h4, bl_irrefl]
        · have : ¬ x.k.fam < y.k.fam := by omega
          simp [or4, a1, a2, h2, h3, h3', this, bl_irrefl]
      · simp [or4, a1, a2, h2, h3, h3']
    · have b1 : ¬ x.k.kind < y.k.kind := by omega
      have b2 : ¬ x.k.kind = y.k.kind := by omega
      simp [or4, a1, a2, b1, b2]
  · have a1 : ¬ x.at_ < y.at_ := by omega
    have a2 : ¬ x.at_ = y.at_ := by omega
    simp [or4, a1, a2]
theorem swoT : SWO (ltOf cfT) where
  irrefl x := by rw [ltOf_cfT]; exact tlt_irrefl x
  trans x y z h1 h2 := by rw [ltOf_cfT] at *; exact tlt_trans h1 h2
  ntrans x y z h1 h2 := by
    rw [ltOf_cfT] at *
    cases h : tlt x z with
    | false => rfl
    | true =>
      rcases tlt_total x y with e | rfl | e
      · rw [e] at h1; cases h1
      · rw [h] at h2; cases h2
      · have := tlt_trans e h
        rw [this] at h2; cases h2

def dueF (now : Nat) (x : Tm) : Bool := decide (x.at_ ≤ now)
def peerF (peer : ByteArray) (x : Tm) : Bool := x.k.peer.toList == peer.toList
set_option maxRecDepth 100000 in
set_option maxHeartbeats 2000000 in
theorem due_any (w : World) (b m j : Nat) (now : Nat) (S : List Tm) (p : Tm) (hb : CellsAt w b #[.map (some m)] 50) (hm : MapAt Try.prog 30 w m (tmL S)) (hk : p.k.Ok) (hj : S[j]? = some p) :
    Calls Try.prog 28 #[.agg #[.pointer (some ⟨b, 0, none⟩), .int .u64 now], p.k.v] w fun e w' => e = .returned (.bool (dueF now p)) ∧ Below w.heap.size w w' := by
  obtain ⟨n, k⟩ := p
  obtain ⟨kl, hkl⟩ := wk_key k hk
  have lb := hb.lt
  have lm := hm.lt
  have HA := Lib.hid (((Below.refl w.heap.size w).alloc (Nat.le_refl _) (.cells #[.pointer (some ⟨b, 0, none⟩), .int .u64 now] 68)).alloc (by simp) (.cells #[.int .i64 k.kind, .string k.peer, .int .i64 k.fam] 30))
  have HX1 := Lib.hid ((CellsAt.new w #[.pointer (some ⟨b, 0, none⟩), .int .u64 now] 68).alloc (.cells #[.int .i64 k.kind, .string k.peer, .int .i64 k.fam] 30))
  have HX2 := Lib.hid (CellsAt.new (w.alloc (.cells #[.pointer (some ⟨b, 0, none⟩), .int .u64 now] 68)) #[.int .i64 k.kind, .string k.peer, .int .i64 k.fam] 30)
  rw [World.size_alloc] at HX2
  have HB := Lib.hid ((hb.alloc (.cells #[.pointer (some ⟨b, 0, none⟩), .int .u64 now] 68)).alloc (.cells #[.int .i64 k.kind, .string k.peer, .int .i64 k.fam] 30))
  have HM := Lib.hid ((hm.alloc (.cells #[.pointer (some ⟨b, 0, none⟩), .int .u64 now] 68)).alloc (.cells #[.int .i64 k.kind, .string k.peer, .int .i64 k.fam] 30))
  have HJ := Lib.hid hj
  have HKL := Lib.hid hkl
  clear hb hm hkl hk hj
  unfold WK.v
  generalize hw0 : (w.alloc (.cells #[.pointer (some ⟨b, 0, none⟩), .int .u64 now] 68)).alloc (.cells #[.int .i64 k.kind, .string k.peer, .int .i64 k.fam] 30) = w1 at HX1 HX2 HB HM HA
  go_enter Try.func28, Try.ntmps28
  go_wp2_with fail
  clear hw0
  have hlk := fun nd => (HM.out.drew nd).lookup_some1 (t := 48) wkLaw Try.underlying48 (zero_u64 _) HKL.out (tmL_at HJ.out)
  unfold WK.v at hlk
  have c0 := HB.out.c1
  obtain ⟨x0, x1⟩ := HX1.out.c2
  obtain ⟨k0, k1, k2⟩ := HX2.out.c3
  refine wp_region_held_drew (S := fun w' => ∃ n, w' = w1.drewN n) (by kernel_rfl) (⟨1, rfl⟩) (fun hHeld => ?_)
  refine wpAnyH_take (i := 0) (oi := { dst := some 5, op := Op.fieldAddr 68 (Operand.tmp 2) 0, type := 0, pos := "wheel.go:102", after := #[], guard := none }) (v := ?_) rfl (by kernel_rfl) (by kernel_rfl) (by kernel_rfl) (fun _ _ _ h => h) (Or.inl ⟨by rfl, ?_⟩) hHeld ?_
  rotate_left
  · intro w hSw
    obtain ⟨nd, rfl⟩ := hSw
    go_simp
    try with_reducible rfl
  try simp only [Act.put, List.setIfInBounds_toArray, List.set_cons_zero, List.set_cons_succ]
  refine wpAnyH_take (i := 1) (oi := { dst := some 6, op := Op.load 23 (Operand.tmp 5), type := 23, pos := "wheel.go:102", after := #[{ on := 0, ground := Ground.data }], guard := none }) (v := ?_) rfl (by kernel_rfl) (by kernel_rfl) (by kernel_rfl) (fun _ _ _ h => h) (Or.inl ⟨by rfl, ?_⟩) hHeld ?_
  rotate_left
  · intro w hSw
    obtain ⟨nd, rfl⟩ := hSw
    go_simp
    try with_reducible rfl
  try simp only [Act.put, List.setIfInBounds_toArray, List.set_cons_zero, List.set_cons_succ]
  refine wpAnyH_take (i := 2) (oi := { dst := some 7, op := Op.nilCheck (Operand.tmp 6), type := 0, pos := "wheel.go:102", after := #[{ on := 1, ground := Ground.data }], guard := none }) (v := ?_) rfl (by kernel_rfl) (by kernel_rfl) (by kernel_rfl) (fun _ _ _ h => h) (Or.inl ⟨by rfl, ?_⟩) hHeld ?_
  rotate_left
  · intro w hSw
    obtain ⟨nd, rfl⟩ := hSw
    go_simp
    try with_reducible rfl
  try simp only [Act.put, List.setIfInBounds_toArray, List.set_cons_zero, List.set_cons_succ]
  refine wpAnyH_take (i := 3) (oi := { dst := some 8, op := Op.fieldAddr 50 (Operand.tmp 7) 0, type := 0, pos := "wheel.go:102", after := #[{ on := 2, ground := Ground.data }], guard := none }) (v := ?_) rfl (by kernel_rfl) (by kernel_rfl) (by kernel_rfl) (fun _ _ _ h => h) (Or.inl ⟨by rfl, ?_⟩) hHeld ?_
  rotate_left
  · intro w hSw
    obtain ⟨nd, rfl⟩ := hSw
    go_simp
    try with_reducible rfl
  try simp only [Act.put, List.setIfInBounds_toArray, List.set_cons_zero, List.set_cons_succ]
  refine wpAnyH_take (i := 4) (oi := { dst := some 9, op := Op.load 48 (Operand.tmp 8), type := 48, pos := "wheel.go:102", after := #[{ on := 3, ground := Ground.data }], guard := none }) (v := ?_) rfl (by kernel_rfl) (by kernel_rfl) (by kernel_rfl) (fun _ _ _ h => h) (Or.inl ⟨by rfl, ?_⟩) hHeld ?_
  rotate_left
  · intro w hSw
    obtain ⟨nd, rfl⟩ := hSw
    go_simp
    try with_reducible rfl
  try simp only [Act.put, List.setIfInBounds_toArray, List.set_cons_zero, List.set_cons_succ]
  refine wpAnyH_take (i := 5) (oi := { dst := some 10, op := Op.load 30 (Operand.tmp 3), type := 30, pos := "wheel.go:102", after := #[], guard := none }) (v := ?_) rfl (by kernel_rfl) (by kernel_rfl) (by kernel_rfl) (fun _ _ _ h => h) (Or.inl ⟨by rfl, ?_⟩) hHeld ?_
  rotate_left
  · intro w hSw
    obtain ⟨nd, rfl⟩ := hSw
    go_simp
    try with_reducible rfl
  try simp only [Act.put, List.setIfInBounds_toArray, List.set_cons_zero, List.set_cons_succ]
  refine wpAnyH_take (i := 6) (oi := { dst := some 11, op := Op.lookup 48 (Operand.tmp 9) (Operand.tmp 10) false, type := 27, pos := "wheel.go:102", after := #[{ on := 4, ground := Ground.data }, { on := 5, ground := Ground.data }], guard := none }) (v := ?_) rfl (by kernel_rfl) (by kernel_rfl) (by kernel_rfl) (fun _ _ _ h => h) (Or.inl ⟨by rfl, ?_⟩) hHeld ?_
  rotate_left
  · intro w hSw
    obtain ⟨nd, rfl⟩ := hSw
    go_simp
    try with_reducible rfl
  try simp only [Act.put, List.setIfInBounds_toArray, List.set_cons_zero, List.set_cons_succ]
  refine wpAnyH_take (i := 7) (oi := { dst := some 12, op := Op.fieldAddr 68 (Operand.tmp 2) 1, type := 0, pos := "wheel.go:102", after := #[], guard := none }) (v := ?_) rfl (by kernel_rfl) (by kernel_rfl) (by kernel_rfl) (fun _ _ _ h => h) (Or.inl ⟨by rfl, ?_⟩) hHeld ?_
  rotate_left
  · intro w hSw
    obtain ⟨nd, rfl⟩ := hSw
    go_simp
    try with_reducible rfl
  try simp only [Act.put, List.setIfInBounds_toArray, List.set_cons_zero, List.set_cons_succ]
  refine wpAnyH_take (i := 8) (oi := { dst := some 13, op := Op.load 27 (Operand.tmp 12), type := 27, pos := "wheel.go:102", after := #[{ on := 7, ground := Ground.data }], guard := none }) (v := ?_) rfl (by kernel_rfl) (by kernel_rfl) (by kernel_rfl) (fun _ _ _ h => h) (Or.inl ⟨by rfl, ?_⟩) hHeld ?_
  rotate_left
  · intro w hSw
    obtain ⟨nd, rfl⟩ := hSw
    go_simp
    try with_reducible rfl
  try simp only [Act.put, List.setIfInBounds_toArray, List.set_cons_zero, List.set_cons_succ]
  refine wpAnyH_take (i := 9) (oi := { dst := some 14, op := Op.binOp BinOp.leq 27 (Operand.tmp 11) (Operand.tmp 13) 27, type := 4, pos := "wheel.go:102", after := #[{ on := 6, ground := Ground.data }, { on := 8, ground := Ground.data }], guard := none }) (v := ?_) rfl (by kernel_rfl) (by kernel_rfl) (by kernel_rfl) (fun _ _ _ h => h) (Or.inl ⟨by rfl, ?_⟩) hHeld ?_
  rotate_left
  · intro w hSw
    obtain ⟨nd, rfl⟩ := hSw
    go_simp
    try with_reducible rfl
  try simp only [Act.put, List.setIfInBounds_toArray, List.set_cons_zero, List.set_cons_succ]
  refine wpAnyH_take (i := 10) (oi := { dst := some 4, op := Op.assign (Operand.tmp 14), type := 4, pos := "wheel.go:102", after := #[{ on := 9, ground := Ground.data }, { on := 0, ground := Ground.phase }, { on := 1, ground := Ground.phase }, { on := 2, ground := Ground.phase }, { on := 3, ground := Ground.phase }, { on := 4, ground := Ground.phase }, { on := 5, ground := Ground.phase }, { on := 6, ground := Ground.phase }, { on := 7, ground := Ground.phase }, { on := 8, ground := Ground.phase }, { on := 9, ground := Ground.phase }], guard := none }) (v := ?_) rfl (by kernel_rfl) (by kernel_rfl) (by kernel_rfl) (fun _ _ _ h => h) (Or.inl ⟨by rfl, ?_⟩) hHeld ?_
  rotate_left
  · intro w hSw
    obtain ⟨nd, rfl⟩ := hSw
    go_simp
    try with_reducible rfl
  try simp only [Act.put, List.setIfInBounds_toArray, List.set_cons_zero, List.set_cons_succ]
  refine wpAnyH_done (by kernel_rfl) ?_ _
  clear hHeld hlk
  go_wp2_with fail
  go_ret
  exact ⟨ret_bool (by simp [dueF]), below_drewN HA.out 1⟩
theorem drop_any (w : World) (c : Nat) (peer : ByteArray) (n : Nat) (k : WK) (T : TypeId) (hc : CellsAt w c #[.string peer] T) :
    Calls Try.prog 30 #[k.v, .pointer (some ⟨c, 0, none⟩)] w fun e w' => e = .returned (.bool (peerF peer ⟨n, k⟩)) ∧ Below w.heap.size w w' := by
  have lb := hc.lt
  have c0 := hc.c1
  unfold WK.v
  go_enter Try.func30, Try.ntmps30
  go_wp2_with fail
  go_ret
  exact ⟨rfl, (Below.refl _ _).alloc (Nat.le_refl _) _⟩
end Go.Proofs.Ytcgegaahdbnacaa
