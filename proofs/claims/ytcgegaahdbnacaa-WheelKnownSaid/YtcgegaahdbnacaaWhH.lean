/-
  Timers: Arm refused, Next, Copy; wheels that are none. Conditions: sizes.
-/
import Derived.Test.YtcgegaahdbnacaaWhG
set_option linter.unusedVariables false
set_option linter.unusedSimpArgs false
namespace Go.Proofs.Ytcgegaahdbnacaa
open Go.RowKit Go.MapKept Go.Shelf Go.Lib
open Go.Maps (Keyed)

set_option maxRecDepth 100000 in
set_option maxHeartbeats 4000000 in
theorem warm_bad (w : World) (b m : Nat) (S : List Tm) (k : WK) (n : Nat) (h : WheelAt w b m S) (hk : k.Ok) (hm : ¬ KMay k ∨ 1099511627776 < n) :
    Calls Try.prog 18 #[.pointer (some ⟨b, 0, none⟩), k.v, .int .u64 n] w fun e w' => e = .returned (.int .i64 2) ∧ Below w.heap.size w w' := by
  have lb := h.lt.1
  have hA := Below.alloc (Below.refl w.heap.size w) (Nat.le_refl _) (.cells #[.int .i64 k.kind, .string k.peer, .int .i64 k.fam] 30)
  have HL := Lib.hid (h.below hA (Nat.le_refl _))
  have HK := Lib.hid (CellsAt.new w #[.int .i64 k.kind, .string k.peer, .int .i64 k.fam] 30)
  have HA := Lib.hid hA
  have hs := hk.peer
  clear hA h hk
  unfold WK.v
  generalize hw0 : w.alloc (.cells #[.int .i64 k.kind, .string k.peer, .int .i64 k.fam] 30) = w0 at HL HK HA
  have c0 := HL.out.blk.c1
  obtain ⟨k0, k1, k2⟩ := HK.out.c3
  by_cases a1 : k.kind < 1
  · clear hm hs
    go_enter Try.func18, Try.ntmps18
    go_wp2_with fail
    clear hw0
    refine (wnone_any b m _ c0).mono ?_
    rintro e w1 ⟨rfl, rfl⟩
    go_wp2_with fail
    go_ret
    exact ⟨rfl, HA.out⟩
  by_cases a2 : 7 < k.kind
  · clear hm hs
    have a1 : 1 ≤ k.kind := by omega
    go_enter Try.func18, Try.ntmps18
    go_wp2_with fail
    clear hw0
    refine (wnone_any b m _ c0).mono ?_
    rintro e w1 ⟨rfl, rfl⟩
    go_wp2_with fail
    go_ret
    exact ⟨rfl, HA.out⟩
  by_cases a3 : NameOk k.peer
  · by_cases a4 : k.fam < 0
    · clear hm hs
      go_enter Try.func18, Try.ntmps18
      go_wp2_with fail
      clear hw0
      refine (wnone_any b m _ c0).mono ?_
      rintro e w1 ⟨rfl, rfl⟩
      go_wp2_with fail
      refine (named_yes k.peer a3 _).mono ?_
      rintro e w1' ⟨rfl, hw⟩
      have hw := hw.symm
      subst hw
      go_wp2_with fail
      go_ret
      exact ⟨rfl, HA.out⟩
    by_cases a5 : 5 < k.fam
    · clear hm hs
      have a4 : 0 ≤ k.fam := by omega
      go_enter Try.func18, Try.ntmps18
      go_wp2_with fail
      clear hw0
      refine (wnone_any b m _ c0).mono ?_
      rintro e w1 ⟨rfl, rfl⟩
      go_wp2_with fail
      refine (named_yes k.peer a3 _).mono ?_
      rintro e w1' ⟨rfl, hw⟩
      have hw := hw.symm
      subst hw
      go_wp2_with fail
      go_ret
      exact ⟨rfl, HA.out⟩
    have a6 : 1099511627776 < n := by
      rcases hm with hm | hm
      · exact absurd ⟨⟨by omega, by omega⟩, a3, by omega, by omega⟩ hm
      · exact hm
    clear hm hs
    have b1 : 1 ≤ k.kind := by omega
    have b2 : k.kind ≤ 7 := by omega
    have b3 : 0 ≤ k.fam := by omega
    have b4 : k.fam ≤ 5 := by omega
    clear a1 a2 a4 a5
    go_enter Try.func18, Try.ntmps18
    go_wp2_with fail
    clear hw0
    refine (wnone_any b m _ c0).mono ?_
    rintro e w1 ⟨rfl, rfl⟩
    go_wp2_with fail
    refine (named_yes k.peer a3 _).mono ?_
    rintro e w1' ⟨rfl, hw⟩
    have hw := hw.symm
    subst hw
    go_wp2_with fail
    go_ret
    exact ⟨rfl, HA.out⟩
  · clear hm
    have b1 : 1 ≤ k.kind := by omega
    have b2 : k.kind ≤ 7 := by omega
    clear a1 a2
    go_enter Try.func18, Try.ntmps18
    go_wp2_with fail
    clear hw0
    refine (wnone_any b m _ c0).mono ?_
    rintro e w1 ⟨rfl, rfl⟩
    go_wp2_with fail
    refine (named_no k.peer a3 hs _).mono ?_
    rintro e w1' ⟨rfl, hw⟩
    have hw := hw.symm
    subst hw
    go_wp2_with fail
    go_ret
    exact ⟨rfl, HA.out⟩

set_option maxRecDepth 100000 in
set_option maxHeartbeats 4000000 in
theorem warm_full (w : World) (b m : Nat) (S : List Tm) (k : WK) (n : Nat) (h : WheelAt w b m S) (hk : k.Ok) (hm : KMay k) (hn : n ≤ 1099511627776) (hj : ∀ p ∈ S, p.k ≠ k) (hfull : S.length = 1024) :
    Calls Try.prog 18 #[.pointer (some ⟨b, 0, none⟩), k.v, .int .u64 n] w fun e w' => e = .returned (.int .i64 7) ∧ Below w.heap.size w w' := by
  obtain ⟨kl, hkl⟩ := wk_key k hk
  have lb := h.lt.1
  have hA := Below.alloc (Below.refl w.heap.size w) (Nat.le_refl _) (.cells #[.int .i64 k.kind, .string k.peer, .int .i64 k.fam] 30)
  have HL := Lib.hid (h.below hA (Nat.le_refl _))
  have HK := Lib.hid (CellsAt.new w #[.int .i64 k.kind, .string k.peer, .int .i64 k.fam] 30)
  have HA := Lib.hid hA
  have HJ := Lib.hid hj
  have HKL := Lib.hid hkl
  obtain ⟨q1, q2⟩ := hm.kind
  obtain ⟨q3, q4⟩ := hm.fam
  have HN : Hid (∀ w, Calls Try.prog 31 #[.string k.peer] w fun e w' => e = .returned (.bool true) ∧ w' = w) := Lib.hid (fun w => named_yes k.peer hm.peer w)
  have HFU := Lib.hid hfull
  clear hA hj hkl h hk hm hfull
  unfold WK.v
  generalize hw0 : w.alloc (.cells #[.int .i64 k.kind, .string k.peer, .int .i64 k.fam] 30) = w0 at HL HK HA
  have c0 := HL.out.blk.c1
  obtain ⟨k0, k1, k2⟩ := HK.out.c3
  go_enter Try.func18, Try.ntmps18
  go_wp2_with fail
  clear hw0
  refine (wnone_any b m _ c0).mono ?_
  rintro e w1 ⟨rfl, rfl⟩
  go_wp2_with fail
  refine (HN.out _).mono ?_
  rintro e w1' ⟨rfl, hw⟩
  have hw := hw.symm
  subst hw
  have hlk := fun nd => (HL.out.map.drew nd).lookup_none (t := 48) wkLaw Try.underlying48 (zero_u64 _) HKL.out (tmL_no HJ.out)
  unfold WK.v at hlk
  go_wp2_with fail
  refine wp_region_held_drew (S := fun w' => ∃ n, w' = w1.drewN n) (by kernel_rfl) (⟨1, rfl⟩) (fun hHeld => ?_)
  refine wpAnyH_take (i := 0) (oi := { dst := some 40, op := Op.move (Operand.tmp 0), type := 23, pos := "wheel.go:39", after := #[], guard := none }) (v := ?_) rfl (by kernel_rfl) (by kernel_rfl) (by kernel_rfl) (fun _ _ _ h => h) (Or.inl ⟨by rfl, ?_⟩) hHeld ?_
  rotate_left
  · intro w hSw
    obtain ⟨nd, rfl⟩ := hSw
    go_simp
    try with_reducible rfl
  try simp only [Act.put, List.setIfInBounds_toArray, List.set_cons_zero, List.set_cons_succ]
  refine wpAnyH_take (i := 1) (oi := { dst := some 41, op := Op.nilCheck (Operand.tmp 40), type := 0, pos := "wheel.go:39", after := #[{ on := 0, ground := Ground.data }], guard := none }) (v := ?_) rfl (by kernel_rfl) (by kernel_rfl) (by kernel_rfl) (fun _ _ _ h => h) (Or.inl ⟨by rfl, ?_⟩) hHeld ?_
  rotate_left
  · intro w hSw
    obtain ⟨nd, rfl⟩ := hSw
    go_simp
    try with_reducible rfl
  try simp only [Act.put, List.setIfInBounds_toArray, List.set_cons_zero, List.set_cons_succ]
  refine wpAnyH_take (i := 2) (oi := { dst := some 42, op := Op.fieldAddr 50 (Operand.tmp 41) 0, type := 0, pos := "wheel.go:39", after := #[{ on := 1, ground := Ground.data }], guard := none }) (v := ?_) rfl (by kernel_rfl) (by kernel_rfl) (by kernel_rfl) (fun _ _ _ h => h) (Or.inl ⟨by rfl, ?_⟩) hHeld ?_
  rotate_left
  · intro w hSw
    obtain ⟨nd, rfl⟩ := hSw
    go_simp
    try with_reducible rfl
  try simp only [Act.put, List.setIfInBounds_toArray, List.set_cons_zero, List.set_cons_succ]
  refine wpAnyH_take (i := 3) (oi := { dst := some 43, op := Op.load 48 (Operand.tmp 42), type := 48, pos := "wheel.go:39", after := #[{ on := 2, ground := Ground.data }], guard := none }) (v := ?_) rfl (by kernel_rfl) (by kernel_rfl) (by kernel_rfl) (fun _ _ _ h => h) (Or.inl ⟨by rfl, ?_⟩) hHeld ?_
  rotate_left
  · intro w hSw
    obtain ⟨nd, rfl⟩ := hSw
    go_simp
    try with_reducible rfl
  try simp only [Act.put, List.setIfInBounds_toArray, List.set_cons_zero, List.set_cons_succ]
  refine wpAnyH_take (i := 4) (oi := { dst := some 44, op := Op.load 30 (Operand.tmp 4), type := 30, pos := "wheel.go:39", after := #[], guard := none }) (v := ?_) rfl (by kernel_rfl) (by kernel_rfl) (by kernel_rfl) (fun _ _ _ h => h) (Or.inl ⟨by rfl, ?_⟩) hHeld ?_
  rotate_left
  · intro w hSw
    obtain ⟨nd, rfl⟩ := hSw
    go_simp
    try with_reducible rfl
  try simp only [Act.put, List.setIfInBounds_toArray, List.set_cons_zero, List.set_cons_succ]
  refine wpAnyH_take (i := 5) (oi := { dst := some 45, op := Op.lookup 48 (Operand.tmp 43) (Operand.tmp 44) true, type := 36, pos := "wheel.go:39", after := #[{ on := 3, ground := Ground.data }, { on := 4, ground := Ground.data }], guard := none }) (v := ?_) rfl (by kernel_rfl) (by kernel_rfl) (by kernel_rfl) (fun _ _ _ h => h) (Or.inl ⟨by rfl, ?_⟩) hHeld ?_
  rotate_left
  · intro w hSw
    obtain ⟨nd, rfl⟩ := hSw
    go_simp
    try with_reducible rfl
  try simp only [Act.put, List.setIfInBounds_toArray, List.set_cons_zero, List.set_cons_succ]
  refine wpAnyH_take (i := 6) (oi := { dst := some 39, op := Op.move (Operand.tmp 45), type := 36, pos := "wheel.go:39", after := #[{ on := 5, ground := Ground.data }], guard := none }) (v := ?_) rfl (by kernel_rfl) (by kernel_rfl) (by kernel_rfl) (fun _ _ _ h => h) (Or.inl ⟨by rfl, ?_⟩) hHeld ?_
  rotate_left
  · intro w hSw
    obtain ⟨nd, rfl⟩ := hSw
    go_simp
    try with_reducible rfl
  try simp only [Act.put, List.setIfInBounds_toArray, List.set_cons_zero, List.set_cons_succ]
  refine wpAnyH_take (i := 7) (oi := { dst := some 46, op := Op.extract (Operand.tmp 39) 0, type := 27, pos := "wheel.go:39", after := #[{ on := 6, ground := Ground.data }], guard := none }) (v := ?_) rfl (by kernel_rfl) (by kernel_rfl) (by kernel_rfl) (fun _ _ _ h => h) (Or.inl ⟨by rfl, ?_⟩) hHeld ?_
  rotate_left
  · intro w hSw
    obtain ⟨nd, rfl⟩ := hSw
    go_simp
    try with_reducible rfl
  try simp only [Act.put, List.setIfInBounds_toArray, List.set_cons_zero, List.set_cons_succ]
  refine wpAnyH_take (i := 8) (oi := { dst := some 47, op := Op.extract (Operand.tmp 39) 1, type := 4, pos := "wheel.go:39", after := #[{ on := 6, ground := Ground.data }, { on := 9, ground := Ground.gcOnly Departure.lateStores }], guard := none }) (v := ?_) rfl (by kernel_rfl) (by kernel_rfl) (by kernel_rfl) (fun _ _ _ h => h) (Or.inl ⟨by rfl, ?_⟩) hHeld ?_
  rotate_left
  · intro w hSw
    obtain ⟨nd, rfl⟩ := hSw
    go_simp
    try with_reducible rfl
  try simp only [Act.put, List.setIfInBounds_toArray, List.set_cons_zero, List.set_cons_succ]
  refine wpAnyH_take (i := 9) (oi := { dst := some 7, op := Op.assign (Operand.tmp 46), type := 27, pos := "wheel.go:39", after := #[{ on := 7, ground := Ground.data }, { on := 0, ground := Ground.phase }, { on := 1, ground := Ground.phase }, { on := 2, ground := Ground.phase }, { on := 3, ground := Ground.phase }, { on := 4, ground := Ground.phase }, { on := 5, ground := Ground.phase }, { on := 6, ground := Ground.phase }, { on := 7, ground := Ground.phase }, { on := 8, ground := Ground.textOnly Departure.lateStores }], guard := none }) (v := ?_) rfl (by kernel_rfl) (by kernel_rfl) (by kernel_rfl) (fun _ _ _ h => h) (Or.inl ⟨by rfl, ?_⟩) hHeld ?_
  rotate_left
  · intro w hSw
    obtain ⟨nd, rfl⟩ := hSw
    go_simp
    try with_reducible rfl
  try simp only [Act.put, List.setIfInBounds_toArray, List.set_cons_zero, List.set_cons_succ]
  refine wpAnyH_take (i := 10) (oi := { dst := some 8, op := Op.assign (Operand.tmp 47), type := 4, pos := "wheel.go:39", after := #[{ on := 8, ground := Ground.data }, { on := 9, ground := Ground.chain }, { on := 0, ground := Ground.phase }, { on := 1, ground := Ground.phase }, { on := 2, ground := Ground.phase }, { on := 3, ground := Ground.phase }, { on := 4, ground := Ground.phase }, { on := 5, ground := Ground.phase }, { on := 6, ground := Ground.phase }, { on := 7, ground := Ground.phase }, { on := 8, ground := Ground.phase }, { on := 9, ground := Ground.phase }], guard := none }) (v := ?_) rfl (by kernel_rfl) (by kernel_rfl) (by kernel_rfl) (fun _ _ _ h => h) (Or.inl ⟨by rfl, ?_⟩) hHeld ?_
  rotate_left
  · intro w hSw
    obtain ⟨nd, rfl⟩ := hSw
    go_simp
    try with_reducible rfl
  try simp only [Act.put, List.setIfInBounds_toArray, List.set_cons_zero, List.set_cons_succ]
  refine wpAnyH_done (by kernel_rfl) ?_ _
  clear hHeld hlk c0 k0 k1 k2
  have HL3 : Hid (WheelAt w1.drew b m S) := HL.out.drew 1
  have HA3 : Hid (Below w.heap.size w w1.drew) := below_drewN HA.out 1
  clear HL HK HA
  generalize w1.drew = w3 at HL3 HA3 ⊢
  have hl := HL3.out.map.len_ (t := 48) Try.underlying48 3
  have e1 : (tmL S).length = S.length := by simp [tmL]
  rw [e1, HFU.out] at hl
  clear e1
  have c0 := HL3.out.blk.c1
  go_wp2_with fail
  go_ret
  exact ⟨rfl, HA3.out⟩

/-- the first tick at which one is due -/
def NextPost (w : World) (S : List Tm) (e : Ending) (w' : World) : Prop :=
  ((S = [] ∧ e = .returned (.tuple #[.int .u64 0, .bool false])) ∨ (∃ n : Nat, (∃ p ∈ S, p.at_ = n) ∧ (∀ p ∈ S, n ≤ p.at_) ∧ e = .returned (.tuple #[.int .u64 n, .bool true]))) ∧ Below w.heap.size w w'
set_option maxRecDepth 100000 in
set_option maxHeartbeats 4000000 in
theorem wnext_any (w : World) (b m : Nat) (S : List Tm) (h : WheelAt w b m S) :
    Calls Try.prog 14 #[.pointer (some ⟨b, 0, none⟩)] w (NextPost w S) := by
  obtain ⟨l0, l1⟩ := h.lt
  have HOK := Lib.hid h.ok
  have c0 := h.blk.c1
  have hl := h.map.len_ (t := 48) Try.underlying48 3
  have e1 : (tmL S).length = S.length := by simp [tmL]
  rw [e1] at hl
  clear e1
  have HLEN := Lib.hid h.len
  by_cases h0 : S = []
  · subst h0
    clear h
    go_enter Try.func14, Try.ntmps14
    go_wp2_with fail
    refine (wnone_any b m _ c0).mono ?_
    rintro e w1 ⟨rfl, rfl⟩
    go_wp2_with fail
    go_ret2
    exact ⟨Or.inl ⟨rfl, rfl⟩, Below.refl _ _⟩
  · have hpos : 0 < S.length := List.length_pos_iff.2 h0
    have z1 : ((S.length : Int) == 0) = false := by rw [beq_eq_false_iff_ne]; omega
    have z2 : ¬ (S.length : Int) = 0 := by omega
    have z3 : decide ((S.length : Int) = 0) = false := by simpa using z2
    obtain ⟨w0, hr, hra, hb0, hz⟩ := h.map.range (t := 48) Try.underlying48
    have HR0 := Lib.hid hra
    have HB0 := Lib.hid hb0
    clear h hra hb0
    go_enter Try.func14, Try.ntmps14
    go_wp2_with fail
    refine (wnone_any b m _ c0).mono ?_
    rintro e w1 ⟨rfl, hw⟩
    have hw := hw.symm
    subst hw
    go_wp2_with fail
    clear hr c0 hl
    go_loopw [4] (fun x wr => ∃ (D SL : List Tm) (u : Nat), x = .int .u64 u ∧ u ≤ 1099511627776 ∧ Hid (RangeAt Try.prog 30 wr m w.heap.size (tmL S) (tmL SL)) ∧ Hid ((D ++ SL).Perm S) ∧ Hid (∀ p ∈ D, u ≤ p.at_) ∧ Hid (D = [] ∨ ∃ p ∈ D, p.at_ = u) ∧ Hid (D = [] → u = 1099511627776) ∧ Hid (Below w.heap.size w wr)) (fun _ wr => wr.rangeLeft m w.heap.size)
    case atStart => exact ⟨[], S, 1099511627776, rfl, by omega, HR0.out, List.Perm.refl _, (fun p hp => absurd hp (by simp)), Or.inl rfl, fun _ => rfl, HB0.out⟩
    case round =>
      obtain ⟨D, SL, u, rfl, hu, HR, HP, HD1, HD2, HD3, HB⟩ := hrel
      clear HB0 HR0
      have hrz := HR.out.lt.2
      rcases HR.out.next (by omega) 0 with ⟨hnil, hrun⟩ | ⟨i, key, v, wq, hi, hrun, hrg, hgr, hzq, hent⟩
      · have hsl : SL = [] := by unfold tmL at hnil; exact List.map_eq_nil_iff.1 hnil
        subst hsl
        go_wp2_with fail
        go_ret2
        refine ⟨Or.inr ⟨u, ?_, ?_, rfl⟩, HB.out⟩
        · rcases HD2.out with e | ⟨p, hp, e⟩
          · exfalso
            have := HP.out.length_eq
            rw [e] at this
            simp at this
            omega
          · exact ⟨p, HP.out.mem_iff.1 (List.mem_append_left _ hp), e⟩
        · intro p hp
          have := HP.out.mem_iff.2 hp
          rw [List.append_nil] at this
          exact HD1.out p this
      · obtain ⟨p, hi2, rfl, rfl⟩ := tmL_back hi
        have hat := (HOK.out p (HP.out.mem_iff.1 (List.mem_append_right _ (List.mem_of_getElem? hi2)))).2
        have hpe := perm_eraseIdx SL i _ hi2
        have HP2 : Hid (((D ++ [p]) ++ SL.eraseIdx i).Perm S) := by
          refine List.Perm.trans ?_ HP.out
          rw [List.append_assoc]
          exact List.Perm.append_left D hpe
        rw [tmL_erase] at hrg
        have HRq := Lib.hid hrg
        have HBq : Hid (Below w.heap.size w wq) := (GrownX.of_row (X := fun i => i = w.heap.size) hgr rfl).below HB.out (fun i hi => by omega) HB.out.size
        have hmeas : Hid ((SL.eraseIdx i).length < SL.length) := by
          show _ < _
          obtain ⟨hil, _⟩ := List.getElem?_eq_some_iff.1 hi2
          rw [List.length_eraseIdx_of_lt hil]
          omega
        have hml : Hid (wr.rangeLeft m w.heap.size = SL.length) := by
          show _ = _
          rw [HR.out.left_eq]
          simp [tmL]
        obtain ⟨n, k⟩ := p
        simp only at hat
        rw [WK.agg] at hrun hent
        clear hi hi2 hpe hrg hgr HB HR HP
        have hmin : ∃ u2 : Nat, min (u : Int) (n : Int) = (u2 : Int) ∧ u2 ≤ u ∧ u2 ≤ n ∧ (u2 = u ∨ u2 = n) := ⟨min u n, by omega, by omega, by omega, by omega⟩
        obtain ⟨u2, hm1, hm2, hm3, hm4⟩ := hmin
        go_wp2_with fail
        have HM4 := Lib.hid hm4
        clear hm1 hm4 hrun hent
        refine ⟨⟨D ++ [(⟨n, k⟩ : Tm)], SL.eraseIdx i, u2, rfl, by omega, HRq.out, HP2.out, ?_, ?_, ?_, HBq.out⟩, ?_⟩
        · intro p hp
          rcases List.mem_append.1 hp with hp | hp
          · have := HD1.out p hp; omega
          · rw [List.mem_singleton] at hp
            subst hp
            exact hm3
        · refine Or.inr ?_
          rcases HM4.out with e | e
          · rcases HD2.out with h | ⟨p, hp, hpe⟩
            · have h2 := HD3.out h
              exact ⟨⟨n, k⟩, by simp, by show n = u2; omega⟩
            · exact ⟨p, List.mem_append_left _ hp, by omega⟩
          · exact ⟨⟨n, k⟩, by simp, e.symm⟩
        · intro e
          simp at e
        · rw [hml.out, HRq.out.left_eq]
          simpa [tmL] using hmeas.out

def WCopyPost (w : World) (S : List Tm) (e : Ending) (w' : World) : Prop :=
  ∃ S', S'.Perm S ∧ e = .returned (.pointer (some ⟨w.heap.size + 1, 0, none⟩)) ∧ WheelAt w' (w.heap.size + 1) w.heap.size S' ∧ Below w.heap.size w w'
set_option maxRecDepth 100000 in
set_option maxHeartbeats 8000000 in
theorem wcopy_any (w : World) (b m : Nat) (S : List Tm) (h : WheelAt w b m S) :
    Calls Try.prog 19 #[.pointer (some ⟨b, 0, none⟩)] w (WCopyPost w S) := by
  obtain ⟨l0, l1⟩ := h.lt
  have HOK := Lib.hid h.ok
  have HLEN := Lib.hid h.len
  have hkeys := Lib.hid h.keys
  have c0 := h.blk.c1
  have HH := Lib.hid h
  clear h
  go_enter Try.func19, Try.ntmps19
  go_wp2_with fail
  refine (wnone_any b m _ c0).mono ?_
  rintro e w1 ⟨rfl, hw⟩
  have hw := hw.symm
  subst hw
  clear c0
  go_wp2_with fail
  refine (wnew_any _).mono ?_
  rintro e w2 ⟨rfl, hn, hb, hz2⟩
  have HH2 := Lib.hid (HH.out.below hb (Nat.le_refl _))
  obtain ⟨w0, hr, hra, hb0, hz⟩ := HH2.out.map.range (t := 48) Try.underlying48
  have HR0 := Lib.hid hra
  have HN0 := Lib.hid (hn.below hb0 (Nat.le_refl _))
  have HB0 := Lib.hid (hb.trans (hb0.mono hb.size))
  have c0 := HH2.out.blk.c1
  clear hra hb0 hn hb HH
  go_wp2_with fail
  clear hr c0 HH2
  rw [hz2] at HR0
  go_loopw [] (fun wr => ∃ (D SL : List Tm), Hid (RangeAt Try.prog 30 wr m (w.heap.size + 2) (tmL S) (tmL SL)) ∧ Hid (WheelAt wr (w.heap.size + 1) w.heap.size D) ∧ Hid ((D ++ SL).Perm S) ∧ Hid (Below w.heap.size w wr)) (fun wr => wr.rangeLeft m (w.heap.size + 2))
  case atStart => exact ⟨[], S, HR0.out, HN0.out, List.Perm.refl _, HB0.out⟩
  case round =>
    obtain ⟨D, SL, HR, HN, HP, HB⟩ := hrel
    clear HR0 HN0 HB0
    have hrz := HR.out.lt.2
    rcases HR.out.next (by omega) 0 with ⟨hnil, hrun⟩ | ⟨i, key, v, wq, hi, hrun, hrg, hgr, hzq, hent⟩
    · have hsl : SL = [] := by unfold tmL at hnil; exact List.map_eq_nil_iff.1 hnil
      subst hsl
      go_wp2_with fail
      go_ret
      exact ⟨D, by simpa using HP.out, rfl, HN.out, HB.out⟩
    · obtain ⟨p, hi2, rfl, rfl⟩ := tmL_back hi
      obtain ⟨hkok, hat⟩ := HOK.out p (HP.out.mem_iff.1 (List.mem_append_right _ (List.mem_of_getElem? hi2)))
      have hpe := perm_eraseIdx SL i _ hi2
      have hno : ∀ q ∈ D, q.k ≠ p.k := fun q hq e => by
        have h1 := (HP.out.pairwise_iff (fun a => fun e => a e.symm)).2 hkeys.out
        exact (List.pairwise_append.1 h1).2.2 q hq _ (List.mem_of_getElem? hi2) e
      obtain ⟨n, k⟩ := p
      simp only at hkok hat hno
      obtain ⟨kl, hkl⟩ := wk_key k hkok
      have HP2 : Hid (((D ++ [(⟨n, k⟩ : Tm)]) ++ SL.eraseIdx i).Perm S) := by
        refine List.Perm.trans ?_ HP.out
        rw [List.append_assoc]
        exact List.Perm.append_left D hpe
      have hlen2 : D.length + 1 ≤ 1024 := by
        have h1 := HP2.out.length_eq
        have h2 := HLEN.out
        simp only [List.length_append, List.length_cons, List.length_nil] at h1
        omega
      rw [tmL_erase] at hrg
      have hGq : GrownX (fun j => j = w.heap.size + 2) wr wq := GrownX.of_row hgr rfl
      have HRq := Lib.hid (hrg.grownX (X := fun _ => False) (GrownX.of_below (Below.alloc (Below.refl wq.heap.size wq) (Nat.le_refl _) (.cells #[.int .i64 k.kind, .string k.peer, .int .i64 k.fam] 30))) (fun h => h) (fun h => h))
      have HNq := Lib.hid ((HN.out.grownX hGq (by omega) (by omega)).alloc (.cells #[.int .i64 k.kind, .string k.peer, .int .i64 k.fam] 30))
      have HBq : Hid (Below w.heap.size w (wq.alloc (.cells #[.int .i64 k.kind, .string k.peer, .int .i64 k.fam] 30))) := (hGq.below HB.out (fun i hi => by omega) HB.out.size).alloc (hGq.below HB.out (fun i hi => by omega) HB.out.size).size _
      have HKq : Hid (CellsAt (wq.alloc (.cells #[.int .i64 k.kind, .string k.peer, .int .i64 k.fam] 30)) wr.heap.size #[.int .i64 k.kind, .string k.peer, .int .i64 k.fam] 30) := by
        have h := CellsAt.new wq #[.int .i64 k.kind, .string k.peer, .int .i64 k.fam] 30
        rw [hzq] at h
        exact h
      have hmeas : Hid ((SL.eraseIdx i).length < SL.length) := by
        show _ < _
        obtain ⟨hil, _⟩ := List.getElem?_eq_some_iff.1 hi2
        rw [List.length_eraseIdx_of_lt hil]
        omega
      have hml : Hid (wr.rangeLeft m (w.heap.size + 2) = SL.length) := by
        show _ = _
        rw [HR.out.left_eq]
        simp [tmL]
      have HNO := Lib.hid hno
      have HKL := Lib.hid hkl
      have HKO := Lib.hid hkok
      rw [WK.agg] at hrun hent
      clear hi hi2 hpe hrg hgr hGq HB HR HP HN hno hkl hkok
      go_wp2_with fail
      generalize hW : wq.alloc (.cells #[.int .i64 k.kind, .string k.peer, .int .i64 k.fam] 30) = W at *
      clear hrun hent hW
      have c0 := HNq.out.blk.c1
      obtain ⟨k0, k1, k2⟩ := HKq.out.c3
      go_wp2_with fail
      have hmap : MapAt Try.prog 30 W.drew w.heap.size (tmL D) := HNq.out.map.drew 1
      obtain ⟨W1, e1, g1, M1, z1⟩ := hmap.update_new (t := 48) wkLaw Try.underlying48 HKL.out (tmL_no HNO.out) (.int .u64 (n : Nat))
      rw [tmL_snoc] at M1
      have hF : WheelAt W1 (w.heap.size + 1) w.heap.size (D ++ [(⟨n, k⟩ : Tm)]) := ⟨(HNq.out.blk.drew 1).row g1 (by omega), M1, by omega, fun p hp => ?ok, by simpa using hlen2⟩
      case ok =>
        rcases List.mem_append.1 hp with hp | hp
        · exact HNq.out.ok p hp
        · rw [List.mem_singleton] at hp
          subst hp
          exact ⟨HKO.out, hat⟩
      have hG : GrownX (fun i => i = w.heap.size) W W1 := (GrownX.of_below (below_drewN (Below.refl _ _) 1)).trans (GrownX.of_row g1 rfl)
      have HR9 := Lib.hid (HRq.out.grownX hG (by omega) (by omega))
      have HB9 : Hid (Below w.heap.size w W1) := hG.below HBq.out (fun i hi => by omega) HBq.out.size
      have HF := Lib.hid hF
      rw [WK.agg] at e1
      clear hF hG M1 z1 hmap
      refine wp_region_held_drew (S := fun w' => CellsAt w' (w.heap.size + 1) #[.map (some w.heap.size)] 50 ∧ CellsAt w' wr.heap.size #[.int .i64 k.kind, .string k.peer, .int .i64 k.fam] 30) (by kernel_rfl) (And.intro (HNq.out.blk.drew 1) (HKq.out.drew 1)) (fun hHeld => ?_)
      refine wpAnyH_take (i := 0) (oi := { dst := some 19, op := Op.move (Operand.tmp 3), type := 23, pos := "wheel.go:127", after := #[], guard := none }) (v := ?_) rfl (by kernel_rfl) (by kernel_rfl) (by kernel_rfl) (fun _ _ _ h => h) (Or.inl ⟨by rfl, ?_⟩) hHeld ?_
      rotate_left
      · intro w hSw
        clear hSw
        go_simp
        try with_reducible rfl
      try simp only [Act.put, List.setIfInBounds_toArray, List.set_cons_zero, List.set_cons_succ]
      refine wpAnyH_take (i := 1) (oi := { dst := some 20, op := Op.nilCheck (Operand.tmp 19), type := 0, pos := "wheel.go:127", after := #[{ on := 0, ground := Ground.data }], guard := none }) (v := ?_) rfl (by kernel_rfl) (by kernel_rfl) (by kernel_rfl) (fun _ _ _ h => h) (Or.inl ⟨by rfl, ?_⟩) hHeld ?_
      rotate_left
      · intro w hSw
        clear hSw
        go_simp
        try with_reducible rfl
      try simp only [Act.put, List.setIfInBounds_toArray, List.set_cons_zero, List.set_cons_succ]
      refine wpAnyH_take (i := 2) (oi := { dst := some 21, op := Op.fieldAddr 50 (Operand.tmp 20) 0, type := 0, pos := "wheel.go:127", after := #[{ on := 1, ground := Ground.data }], guard := none }) (v := ?_) rfl (by kernel_rfl) (by kernel_rfl) (by kernel_rfl) (fun _ _ _ h => h) (Or.inl ⟨by rfl, ?_⟩) hHeld ?_
      rotate_left
      · intro w hSw
        clear hSw
        go_simp
        try with_reducible rfl
      try simp only [Act.put, List.setIfInBounds_toArray, List.set_cons_zero, List.set_cons_succ]
      refine wpAnyH_take (i := 3) (oi := { dst := some 22, op := Op.load 48 (Operand.tmp 21), type := 48, pos := "wheel.go:127", after := #[{ on := 2, ground := Ground.data }], guard := none }) (v := ?_) rfl (by kernel_rfl) (by kernel_rfl) (by kernel_rfl) (fun _ _ _ h => h) (Or.inl ⟨by rfl, ?_⟩) hHeld ?_
      rotate_left
      · intro w hSw
        obtain ⟨q1, q2⟩ := hSw
        have c0 := q1.c1
        obtain ⟨k0, k1, k2⟩ := q2.c3
        go_simp
        try with_reducible rfl
      try simp only [Act.put, List.setIfInBounds_toArray, List.set_cons_zero, List.set_cons_succ]
      refine wpAnyH_take (i := 4) (oi := { dst := some 23, op := Op.load 30 (Operand.tmp 4), type := 30, pos := "wheel.go:127", after := #[], guard := none }) (v := ?_) rfl (by kernel_rfl) (by kernel_rfl) (by kernel_rfl) (fun _ _ _ h => h) (Or.inl ⟨by rfl, ?_⟩) hHeld ?_
      rotate_left
      · intro w hSw
        obtain ⟨q1, q2⟩ := hSw
        have c0 := q1.c1
        obtain ⟨k0, k1, k2⟩ := q2.c3
        go_simp
        try with_reducible rfl
      try simp only [Act.put, List.setIfInBounds_toArray, List.set_cons_zero, List.set_cons_succ]
      refine wpAnyH_take (i := 5) (oi := { dst := some 24, op := Op.move (Operand.tmp 5), type := 27, pos := "wheel.go:127", after := #[], guard := none }) (v := ?_) rfl (by kernel_rfl) (by kernel_rfl) (by kernel_rfl) (fun _ _ _ h => h) (Or.inl ⟨by rfl, ?_⟩) hHeld ?_
      rotate_left
      · intro w hSw
        clear hSw
        go_simp
        try with_reducible rfl
      try simp only [Act.put, List.setIfInBounds_toArray, List.set_cons_zero, List.set_cons_succ]
      refine wpAnyH_ready (rs := [6]) (by kernel_rfl) (by simp) ?_
      refine AllReadyH.cons (o := { dst := none, op := Op.mapUpdate 48 (Operand.tmp 22) (Operand.tmp 23) (Operand.tmp 24), type := 0, pos := "wheel.go:127", after := #[{ on := 3, ground := Ground.data }, { on := 4, ground := Ground.data }, { on := 5, ground := Ground.data }, { on := 0, ground := Ground.phase }, { on := 1, ground := Ground.phase }, { on := 2, ground := Ground.phase }, { on := 3, ground := Ground.phase }, { on := 4, ground := Ground.phase }, { on := 5, ground := Ground.phase }], guard := none }) rfl (fun K hK => ?_) AllReadyH.nil
      go_simp
      skip
      refine hK.out _ _ (And.intro (hHeld.1.row g1 (by omega)) (hHeld.2.row g1 (by omega))) (fun hHeld => ?_)
      clear hK K
      try simp only [Act.put, List.setIfInBounds_toArray, List.set_cons_zero, List.set_cons_succ]
      refine wpAnyH_done (by kernel_rfl) ?_ _
      clear hHeld
      go_wp2_with fail
      refine ⟨⟨D ++ [(⟨n, k⟩ : Tm)], SL.eraseIdx i, HR9.out, HF.out, HP2.out, HB9.out⟩, ?_⟩
      rw [hml.out, HR9.out.left_eq]
      simpa [tmL] using hmeas.out
end Go.Proofs.Ytcgegaahdbnacaa
