/-
  Timers: names, Cancel, Arm. Conditions: sizes.
-/
import Derived.Test.YtcgegaahdbnacaaWhC
set_option linter.unusedVariables false
set_option linter.unusedSimpArgs false
namespace Go.Proofs.Ytcgegaahdbnacaa
open Go.RowKit Go.MapKept
open Go.Maps (Keyed)

/-- may a letter be there? -/
def okc (i c : Nat) : Bool := (decide (97 ≤ c) && decide (c ≤ 122)) || (decide (i ≠ 0) && (decide (c = 45) || (decide (48 ≤ c) && decide (c ≤ 57))))
structure NameOk (s : ByteArray) : Prop where
  pos : 0 < s.size
  short : s.size ≤ 16
  all : ∀ (i : Nat) (h : i < s.size), okc i s[i].toNat = true
theorem okc_no {i c : Nat} (h : ¬ okc i c = true) : ¬ (97 ≤ c ∧ c ≤ 122) ∧ (i = 0 ∨ (c ≠ 45 ∧ (c < 48 ∨ 57 < c))) := by
  simp [okc] at h
  omega
theorem okc_yes {i c : Nat} (h : okc i c = true) : (97 ≤ c ∧ c ≤ 122) ∨ (i ≠ 0 ∧ (c = 45 ∨ (48 ≤ c ∧ c ≤ 57))) := by
  simp [okc] at h
  omega
theorem nonempty_facts {s : ByteArray} (hs : 0 < s.size) : (s.toList == []) = false ∧ s.toList.isEmpty = false ∧ (s.toList != []) = true ∧ ¬ s.toList = [] := by
  have h : ¬ s.toList = [] := by
    rw [ByteArray.toList_eq]
    intro e
    have := congrArg List.length e
    rw [Array.length_toList] at this
    have h3 : s.data.size = s.size := rfl
    simp only [List.length_nil] at this
    omega
  exact ⟨by rw [beq_eq_false_iff_ne]; exact h, by rw [List.isEmpty_eq_false_iff]; exact h, by rw [bne_iff_ne]; exact h, h⟩
/-- a round of the loop over a name -/
def NamedRel (s : ByteArray) (x : Value) : Prop := ∃ k : Nat, k ≤ s.size ∧ x = .int .i64 k ∧ Hid (∀ (i : Nat) (h : i < s.size), i < k → okc i s[i].toNat = true)
set_option maxHeartbeats 2000000 in
theorem named_yes (s : ByteArray) (h : NameOk s) (w : World) : Calls Try.prog 31 #[.string s] w fun e w' => e = .returned (.bool true) ∧ w' = w := by
  have h1 := h.pos
  have h2 := h.short
  have HA := Lib.hid h.all
  obtain ⟨f1, f2, f3, f4⟩ := nonempty_facts h1
  clear h
  go_enter Try.func31, Try.ntmps31
  go_wp2_with fail
  go_loop [8] (fun x => ∃ k : Nat, k ≤ s.size ∧ x = .int .i64 k) (fun x => s.size + 1 - (intOf x).toNat)
  case atStart => exact ⟨0, by omega, rfl⟩
  case round =>
    obtain ⟨k, hk, rfl⟩ := hrel
    by_cases hlt : k < s.size
    · have hc := s[k].toNat_lt
      have ho := HA.out k hlt
      by_cases l : 97 ≤ s[k].toNat ∧ s[k].toNat ≤ 122
      · obtain ⟨l1, l2⟩ := l
        clear ho
        go_wp2_with fail
        exact ⟨⟨k + 1, by omega, by go_num⟩, by simp [intOf]; omega⟩
      · rcases okc_yes ho with ⟨a, b⟩ | ⟨hk0, hd⟩
        · exact absurd ⟨a, b⟩ l
        · clear ho
          have z1 : ((k : Int) == 0) = false := by rw [beq_eq_false_iff_ne]; omega
          have z2 : ¬ (k : Int) = 0 := by omega
          by_cases hlo : 97 ≤ s[k].toNat
          · exfalso; omega
          · rcases hd with hd | ⟨d1, d2⟩
            · have e1 : ((s[k].toNat : Int) == 45) = true := by rw [beq_iff_eq]; omega
              have e2 : ((s[k].toNat : Int) != 45) = false := by rw [bne, e1]; rfl
              clear hd l
              go_wp2_with fail
              exact ⟨⟨k + 1, by omega, by go_num⟩, by simp [intOf]; omega⟩
            · have e1 : ((s[k].toNat : Int) == 45) = false := by rw [beq_eq_false_iff_ne]; omega
              have e2 : ((s[k].toNat : Int) != 45) = true := by rw [bne, e1]; rfl
              clear l
              go_wp2_with fail
              exact ⟨⟨k + 1, by omega, by go_num⟩, by simp [intOf]; omega⟩
    · obtain rfl : k = s.size := by omega
      go_wp2_with fail
      go_ret
      exact ⟨ret_bool (by simp; omega), rfl⟩
set_option maxHeartbeats 2000000 in
theorem named_no (s : ByteArray) (h : ¬ NameOk s) (hs : s.size ≤ 9223372036854775807) (w : World) : Calls Try.prog 31 #[.string s] w fun e w' => e = .returned (.bool false) ∧ w' = w := by
  have HNO := Lib.hid h
  clear h
  go_enter Try.func31, Try.ntmps31
  go_wp2_with fail
  go_loop [8] (NamedRel s) (fun x => s.size + 1 - (intOf x).toNat)
  case atStart => exact ⟨0, by omega, rfl, fun i h1 h2 => absurd h2 (by omega)⟩
  case round =>
    obtain ⟨k, hk, rfl, HR⟩ := hrel
    by_cases hlt : k < s.size
    · have hc := s[k].toNat_lt
      by_cases ho : okc k s[k].toNat = true
      · have HR2 : Hid (∀ (i : Nat) (h : i < s.size), i < k + 1 → okc i s[i].toNat = true) := fun i h1 h2 => by
          by_cases e : i = k
          · subst e; exact ho
          · exact HR.out i h1 (by omega)
        rcases okc_yes ho with ⟨l1, l2⟩ | ⟨hk0, hd⟩
        · clear ho HR
          go_wp2_with fail
          exact ⟨⟨k + 1, by omega, by go_num, HR2⟩, by simp [intOf]; omega⟩
        · clear ho HR
          have z1 : ((k : Int) == 0) = false := by rw [beq_eq_false_iff_ne]; omega
          have z2 : ¬ (k : Int) = 0 := by omega
          have hlo : ¬ 97 ≤ s[k].toNat := by omega
          rcases hd with hd | ⟨d1, d2⟩
          · have e1 : ((s[k].toNat : Int) == 45) = true := by rw [beq_iff_eq]; omega
            have e2 : ((s[k].toNat : Int) != 45) = false := by rw [bne, e1]; rfl
            clear hd
            go_wp2_with fail
            exact ⟨⟨k + 1, by omega, by go_num, HR2⟩, by simp [intOf]; omega⟩
          · have e1 : ((s[k].toNat : Int) == 45) = false := by rw [beq_eq_false_iff_ne]; omega
            have e2 : ((s[k].toNat : Int) != 45) = true := by rw [bne, e1]; rfl
            go_wp2_with fail
            exact ⟨⟨k + 1, by omega, by go_num, HR2⟩, by simp [intOf]; omega⟩
      · obtain ⟨l, hz⟩ := okc_no ho
        clear ho HR
        by_cases hk0 : k = 0
        · have z1 : ((k : Int) == 0) = true := by rw [beq_iff_eq]; omega
          clear hk0
          by_cases hlo : 97 ≤ s[k].toNat
          · have hhi : decide ((s[k].toNat : Int) ≤ 122) = false := by simp; omega
            clear hz l
            go_wp2_with fail
            go_ret
            exact ⟨rfl, rfl⟩
          · clear hz l
            go_wp2_with fail
            go_ret
            exact ⟨rfl, rfl⟩
        · have z1 : ((k : Int) == 0) = false := by rw [beq_eq_false_iff_ne]; omega
          have z2 : ¬ (k : Int) = 0 := by omega
          rcases hz with hz | ⟨hd, hz⟩
          · omega
          · have e1 : ((s[k].toNat : Int) == 45) = false := by rw [beq_eq_false_iff_ne]; omega
            have e2 : ((s[k].toNat : Int) != 45) = true := by rw [bne, e1]; rfl
            clear hd
            by_cases h48 : s[k].toNat < 48
            · have hlo : ¬ 97 ≤ s[k].toNat := by omega
              clear hz l
              go_wp2_with fail
              go_ret
              exact ⟨rfl, rfl⟩
            · have h57 : 57 < s[k].toNat := by omega
              by_cases hlo : 97 ≤ s[k].toNat
              · have hhi : decide ((s[k].toNat : Int) ≤ 122) = false := by simp; omega
                clear hz l
                go_wp2_with fail
                go_ret
                exact ⟨rfl, rfl⟩
              · clear hz l
                go_wp2_with fail
                go_ret
                exact ⟨rfl, rfl⟩
    · obtain rfl : k = s.size := by omega
      have hno : ¬ (0 < s.size ∧ s.size ≤ 16) := fun ⟨a, b⟩ => HNO.out ⟨a, b, fun i h => HR.out i h h⟩
      clear HR
      by_cases h0 : 0 < s.size
      · obtain ⟨f1, f2, f3, f4⟩ := nonempty_facts h0
        have h16 : ¬ s.size ≤ 16 := fun h => hno ⟨h0, h⟩
        clear hno
        go_wp2_with fail
        go_ret
        exact ⟨ret_bool (by simp; omega), rfl⟩
      · have e1 : s.toList = [] := by
          rw [ByteArray.toList_eq]
          apply List.eq_nil_of_length_eq_zero
          rw [Array.length_toList]
          have h3 : s.data.size = s.size := rfl
          omega
        clear hno
        go_wp2_with fail
        go_ret
        exact ⟨rfl, rfl⟩

/-- may a key be? -/
structure KMay (k : WK) : Prop where
  kind : 1 ≤ k.kind ∧ k.kind ≤ 7
  peer : NameOk k.peer
  fam : 0 ≤ k.fam ∧ k.fam ≤ 5

set_option maxRecDepth 100000 in
set_option maxHeartbeats 2000000 in
theorem wcancel_some (w : World) (b m j : Nat) (S : List Tm) (p : Tm) (h : WheelAt w b m S) (hj : S[j]? = some p) :
    Calls Try.prog 13 #[.pointer (some ⟨b, 0, none⟩), p.k.v] w fun e w' => e = .returned (.bool true) ∧ WheelAt w' b m (S.eraseIdx j) ∧ GrownX (fun i => i = m) w w' := by
  obtain ⟨n, k⟩ := p
  obtain ⟨kl, hkl⟩ := wk_key k (h.ok _ (List.mem_of_getElem? hj)).1
  have lb := h.lt.1
  have lm := h.lt.2
  have N1 := h.ne
  have N3 : w.heap.size ≠ m := by omega
  have hA := Below.alloc (Below.refl w.heap.size w) (Nat.le_refl _) (.cells #[.int .i64 k.kind, .string k.peer, .int .i64 k.fam] 30)
  have HL := Lib.hid (h.below hA (Nat.le_refl _))
  have HK := Lib.hid (CellsAt.new w #[.int .i64 k.kind, .string k.peer, .int .i64 k.fam] 30)
  have HA := Lib.hid hA
  have HJ := Lib.hid hj
  have HKL := Lib.hid hkl
  clear hA hj hkl h
  unfold WK.v
  generalize hw0 : w.alloc (.cells #[.int .i64 k.kind, .string k.peer, .int .i64 k.fam] 30) = w0 at HL HK HA
  have c0 := HL.out.blk.c1
  obtain ⟨k0, k1, k2⟩ := HK.out.c3
  go_enter Try.func13, Try.ntmps13
  go_wp2_with fail
  clear hw0
  refine (wnone_any b m _ c0).mono ?_
  rintro e w1 ⟨rfl, rfl⟩
  have hlk := fun nd => (HL.out.map.drew nd).lookup_some (t := 48) wkLaw Try.underlying48 (zero_u64 _) HKL.out (tmL_at HJ.out)
  unfold WK.v at hlk
  go_wp2_with fail
  refine wp_region_held_drew (S := fun w' => ∃ n, w' = w1.drewN n) (by kernel_rfl) (⟨1, rfl⟩) (fun hHeld => ?_)
  refine wpAnyH_take (i := 0) (oi := { dst := some 10, op := Op.move (Operand.tmp 0), type := 23, pos := "wheel.go:51", after := #[], guard := none }) (v := ?_) rfl (by kernel_rfl) (by kernel_rfl) (by kernel_rfl) (fun _ _ _ h => h) (Or.inl ⟨by rfl, ?_⟩) hHeld ?_
  rotate_left
  · intro w hSw
    obtain ⟨nd, rfl⟩ := hSw
    go_simp
    try with_reducible rfl
  try simp only [Act.put, List.setIfInBounds_toArray, List.set_cons_zero, List.set_cons_succ]
  refine wpAnyH_take (i := 1) (oi := { dst := some 11, op := Op.nilCheck (Operand.tmp 10), type := 0, pos := "wheel.go:51", after := #[{ on := 0, ground := Ground.data }], guard := none }) (v := ?_) rfl (by kernel_rfl) (by kernel_rfl) (by kernel_rfl) (fun _ _ _ h => h) (Or.inl ⟨by rfl, ?_⟩) hHeld ?_
  rotate_left
  · intro w hSw
    obtain ⟨nd, rfl⟩ := hSw
    go_simp
    try with_reducible rfl
  try simp only [Act.put, List.setIfInBounds_toArray, List.set_cons_zero, List.set_cons_succ]
  refine wpAnyH_take (i := 2) (oi := { dst := some 12, op := Op.fieldAddr 50 (Operand.tmp 11) 0, type := 0, pos := "wheel.go:51", after := #[{ on := 1, ground := Ground.data }], guard := none }) (v := ?_) rfl (by kernel_rfl) (by kernel_rfl) (by kernel_rfl) (fun _ _ _ h => h) (Or.inl ⟨by rfl, ?_⟩) hHeld ?_
  rotate_left
  · intro w hSw
    obtain ⟨nd, rfl⟩ := hSw
    go_simp
    try with_reducible rfl
  try simp only [Act.put, List.setIfInBounds_toArray, List.set_cons_zero, List.set_cons_succ]
  refine wpAnyH_take (i := 3) (oi := { dst := some 13, op := Op.load 48 (Operand.tmp 12), type := 48, pos := "wheel.go:51", after := #[{ on := 2, ground := Ground.data }], guard := none }) (v := ?_) rfl (by kernel_rfl) (by kernel_rfl) (by kernel_rfl) (fun _ _ _ h => h) (Or.inl ⟨by rfl, ?_⟩) hHeld ?_
  rotate_left
  · intro w hSw
    obtain ⟨nd, rfl⟩ := hSw
    go_simp
    try with_reducible rfl
  try simp only [Act.put, List.setIfInBounds_toArray, List.set_cons_zero, List.set_cons_succ]
  refine wpAnyH_take (i := 4) (oi := { dst := some 14, op := Op.load 30 (Operand.tmp 3), type := 30, pos := "wheel.go:51", after := #[], guard := none }) (v := ?_) rfl (by kernel_rfl) (by kernel_rfl) (by kernel_rfl) (fun _ _ _ h => h) (Or.inl ⟨by rfl, ?_⟩) hHeld ?_
  rotate_left
  · intro w hSw
    obtain ⟨nd, rfl⟩ := hSw
    go_simp
    try with_reducible rfl
  try simp only [Act.put, List.setIfInBounds_toArray, List.set_cons_zero, List.set_cons_succ]
  refine wpAnyH_take (i := 5) (oi := { dst := some 15, op := Op.lookup 48 (Operand.tmp 13) (Operand.tmp 14) true, type := 36, pos := "wheel.go:51", after := #[{ on := 3, ground := Ground.data }, { on := 4, ground := Ground.data }], guard := none }) (v := ?_) rfl (by kernel_rfl) (by kernel_rfl) (by kernel_rfl) (fun _ _ _ h => h) (Or.inl ⟨by rfl, ?_⟩) hHeld ?_
  rotate_left
  · intro w hSw
    obtain ⟨nd, rfl⟩ := hSw
    go_simp
    try with_reducible rfl
  try simp only [Act.put, List.setIfInBounds_toArray, List.set_cons_zero, List.set_cons_succ]
  refine wpAnyH_take (i := 6) (oi := { dst := some 9, op := Op.move (Operand.tmp 15), type := 36, pos := "wheel.go:51", after := #[{ on := 5, ground := Ground.data }], guard := none }) (v := ?_) rfl (by kernel_rfl) (by kernel_rfl) (by kernel_rfl) (fun _ _ _ h => h) (Or.inl ⟨by rfl, ?_⟩) hHeld ?_
  rotate_left
  · intro w hSw
    obtain ⟨nd, rfl⟩ := hSw
    go_simp
    try with_reducible rfl
  try simp only [Act.put, List.setIfInBounds_toArray, List.set_cons_zero, List.set_cons_succ]
  refine wpAnyH_take (i := 7) (oi := { dst := some 16, op := Op.extract (Operand.tmp 9) 0, type := 27, pos := "wheel.go:51", after := #[{ on := 6, ground := Ground.data }], guard := none }) (v := ?_) rfl (by kernel_rfl) (by kernel_rfl) (by kernel_rfl) (fun _ _ _ h => h) (Or.inl ⟨by rfl, ?_⟩) hHeld ?_
  rotate_left
  · intro w hSw
    obtain ⟨nd, rfl⟩ := hSw
    go_simp
    try with_reducible rfl
  try simp only [Act.put, List.setIfInBounds_toArray, List.set_cons_zero, List.set_cons_succ]
  refine wpAnyH_take (i := 8) (oi := { dst := some 17, op := Op.extract (Operand.tmp 9) 1, type := 4, pos := "wheel.go:51", after := #[{ on := 6, ground := Ground.data }, { on := 9, ground := Ground.gcOnly Departure.lateStores }], guard := none }) (v := ?_) rfl (by kernel_rfl) (by kernel_rfl) (by kernel_rfl) (fun _ _ _ h => h) (Or.inl ⟨by rfl, ?_⟩) hHeld ?_
  rotate_left
  · intro w hSw
    obtain ⟨nd, rfl⟩ := hSw
    go_simp
    try with_reducible rfl
  try simp only [Act.put, List.setIfInBounds_toArray, List.set_cons_zero, List.set_cons_succ]
  refine wpAnyH_take (i := 9) (oi := { dst := some 5, op := Op.assign (Operand.tmp 16), type := 27, pos := "wheel.go:51", after := #[{ on := 7, ground := Ground.data }, { on := 0, ground := Ground.phase }, { on := 1, ground := Ground.phase }, { on := 2, ground := Ground.phase }, { on := 3, ground := Ground.phase }, { on := 4, ground := Ground.phase }, { on := 5, ground := Ground.phase }, { on := 6, ground := Ground.phase }, { on := 7, ground := Ground.phase }, { on := 8, ground := Ground.textOnly Departure.lateStores }], guard := none }) (v := ?_) rfl (by kernel_rfl) (by kernel_rfl) (by kernel_rfl) (fun _ _ _ h => h) (Or.inl ⟨by rfl, ?_⟩) hHeld ?_
  rotate_left
  · intro w hSw
    obtain ⟨nd, rfl⟩ := hSw
    go_simp
    try with_reducible rfl
  try simp only [Act.put, List.setIfInBounds_toArray, List.set_cons_zero, List.set_cons_succ]
  refine wpAnyH_take (i := 10) (oi := { dst := some 6, op := Op.assign (Operand.tmp 17), type := 4, pos := "wheel.go:51", after := #[{ on := 8, ground := Ground.data }, { on := 9, ground := Ground.chain }, { on := 0, ground := Ground.phase }, { on := 1, ground := Ground.phase }, { on := 2, ground := Ground.phase }, { on := 3, ground := Ground.phase }, { on := 4, ground := Ground.phase }, { on := 5, ground := Ground.phase }, { on := 6, ground := Ground.phase }, { on := 7, ground := Ground.phase }, { on := 8, ground := Ground.phase }, { on := 9, ground := Ground.phase }], guard := none }) (v := ?_) rfl (by kernel_rfl) (by kernel_rfl) (by kernel_rfl) (fun _ _ _ h => h) (Or.inl ⟨by rfl, ?_⟩) hHeld ?_
  rotate_left
  · intro w hSw
    obtain ⟨nd, rfl⟩ := hSw
    go_simp
    try with_reducible rfl
  try simp only [Act.put, List.setIfInBounds_toArray, List.set_cons_zero, List.set_cons_succ]
  refine wpAnyH_done (by kernel_rfl) ?_ _
  clear hHeld hlk c0 k0 k1 k2
  have HL3 : Hid (WheelAt w1.drew b m S) := HL.out.drew 1
  have HK3 : Hid (CellsAt w1.drew w.heap.size #[.int .i64 k.kind, .string k.peer, .int .i64 k.fam] 30) := HK.out.drew 1
  have HA3 : Hid (Below w.heap.size w w1.drew) := below_drewN HA.out 1
  clear HL HK HA
  generalize w1.drew = w3 at HL3 HK3 HA3 ⊢
  go_wp2_with fail
  have hmap : MapAt Try.prog 30 w3.drew m (tmL S) := HL3.out.map.drew 1
  obtain ⟨W1, e1, g1, M1⟩ := hmap.delete_some (t := 48) (ty := 0) wkLaw Try.underlying48 HKL.out (tmL_at HJ.out)
  rw [tmL_erase] at M1
  have G' : GrownX (fun i => i = m) w W1 := (GrownX.of_below (below_drewN HA3.out 1)).trans (GrownX.of_row g1 rfl)
  have hF : WheelAt W1 b m (S.eraseIdx j) := ⟨(HL3.out.blk.drew 1).row g1 N1, M1, N1, fun p hp => HL3.out.ok p ((List.eraseIdx_sublist _ _).subset hp), Nat.le_trans (List.length_eraseIdx_le ..) HL3.out.len⟩
  unfold WK.v at e1
  have HF := Lib.hid hF
  have HG := Lib.hid G'
  clear hF G' M1 hmap
  refine wp_region_held_drew (S := fun w' => CellsAt w' b #[.map (some m)] 50 ∧ CellsAt w' w.heap.size #[.int .i64 k.kind, .string k.peer, .int .i64 k.fam] 30) (by kernel_rfl) (And.intro (HL3.out.blk.drew 1) (HK3.out.drew 1)) (fun hHeld => ?_)
  refine wpAnyH_take (i := 0) (oi := { dst := some 18, op := Op.move (Operand.tmp 0), type := 23, pos := "wheel.go:52", after := #[], guard := none }) (v := ?_) rfl (by kernel_rfl) (by kernel_rfl) (by kernel_rfl) (fun _ _ _ h => h) (Or.inl ⟨by rfl, ?_⟩) hHeld ?_
  rotate_left
  · intro w hSw
    clear hSw
    go_simp
    try with_reducible rfl
  try simp only [Act.put, List.setIfInBounds_toArray, List.set_cons_zero, List.set_cons_succ]
  refine wpAnyH_take (i := 1) (oi := { dst := some 19, op := Op.nilCheck (Operand.tmp 18), type := 0, pos := "wheel.go:52", after := #[{ on := 0, ground := Ground.data }], guard := none }) (v := ?_) rfl (by kernel_rfl) (by kernel_rfl) (by kernel_rfl) (fun _ _ _ h => h) (Or.inl ⟨by rfl, ?_⟩) hHeld ?_
  rotate_left
  · intro w hSw
    clear hSw
    go_simp
    try with_reducible rfl
  try simp only [Act.put, List.setIfInBounds_toArray, List.set_cons_zero, List.set_cons_succ]
  refine wpAnyH_take (i := 2) (oi := { dst := some 20, op := Op.fieldAddr 50 (Operand.tmp 19) 0, type := 0, pos := "wheel.go:52", after := #[{ on := 1, ground := Ground.data }], guard := none }) (v := ?_) rfl (by kernel_rfl) (by kernel_rfl) (by kernel_rfl) (fun _ _ _ h => h) (Or.inl ⟨by rfl, ?_⟩) hHeld ?_
  rotate_left
  · intro w hSw
    clear hSw
    go_simp
    try with_reducible rfl
  try simp only [Act.put, List.setIfInBounds_toArray, List.set_cons_zero, List.set_cons_succ]
  refine wpAnyH_take (i := 3) (oi := { dst := some 21, op := Op.load 48 (Operand.tmp 20), type := 48, pos := "wheel.go:52", after := #[{ on := 2, ground := Ground.data }], guard := none }) (v := ?_) rfl (by kernel_rfl) (by kernel_rfl) (by kernel_rfl) (fun _ _ _ h => h) (Or.inl ⟨by rfl, ?_⟩) hHeld ?_
  rotate_left
  · intro w hSw
    obtain ⟨q1, q2⟩ := hSw
    have c0 := q1.c1
    obtain ⟨k0, k1, k2⟩ := q2.c3
    go_simp
    try with_reducible rfl
  try simp only [Act.put, List.setIfInBounds_toArray, List.set_cons_zero, List.set_cons_succ]
  refine wpAnyH_take (i := 4) (oi := { dst := some 22, op := Op.load 30 (Operand.tmp 3), type := 30, pos := "wheel.go:52", after := #[], guard := none }) (v := ?_) rfl (by kernel_rfl) (by kernel_rfl) (by kernel_rfl) (fun _ _ _ h => h) (Or.inl ⟨by rfl, ?_⟩) hHeld ?_
  rotate_left
  · intro w hSw
    obtain ⟨q1, q2⟩ := hSw
    have c0 := q1.c1
    obtain ⟨k0, k1, k2⟩ := q2.c3
    go_simp
    try with_reducible rfl
  try simp only [Act.put, List.setIfInBounds_toArray, List.set_cons_zero, List.set_cons_succ]
  refine wpAnyH_ready (rs := [5]) (by kernel_rfl) (by simp) ?_
  refine AllReadyH.cons (o := { dst := none, op := Op.call { callee := Callee.builtin Builtin.delete, args := #[Operand.tmp 21, Operand.tmp 22], argTypes := #[48, 30] }, type := 0, pos := "wheel.go:52", after := #[{ on := 3, ground := Ground.data }, { on := 4, ground := Ground.data }], guard := none }) rfl (fun K hK => ?_) AllReadyH.nil
  go_simp
  skip
  refine hK.out _ _ (And.intro (hHeld.1.row g1 N1) (hHeld.2.row g1 N3)) (fun hHeld => ?_)
  clear hK K
  try simp only [Act.put, List.setIfInBounds_toArray, List.set_cons_zero, List.set_cons_succ]
  refine wpAnyH_done (by kernel_rfl) ?_ _
  clear hHeld
  go_wp2_with fail
  go_ret
  exact ⟨rfl, HF.out, HG.out⟩
set_option maxRecDepth 100000 in
set_option maxHeartbeats 2000000 in
theorem wcancel_none (w : World) (b m : Nat) (S : List Tm) (k : WK) (h : WheelAt w b m S) (hk : k.Ok) (hj : ∀ p ∈ S, p.k ≠ k) :
    Calls Try.prog 13 #[.pointer (some ⟨b, 0, none⟩), k.v] w fun e w' => e = .returned (.bool false) ∧ WheelAt w' b m S ∧ GrownX (fun i => i = m) w w' := by
  obtain ⟨kl, hkl⟩ := wk_key k hk
  have lb := h.lt.1
  have lm := h.lt.2
  have N1 := h.ne
  have N3 : w.heap.size ≠ m := by omega
  have hA := Below.alloc (Below.refl w.heap.size w) (Nat.le_refl _) (.cells #[.int .i64 k.kind, .string k.peer, .int .i64 k.fam] 30)
  have HL := Lib.hid (h.below hA (Nat.le_refl _))
  have HK := Lib.hid (CellsAt.new w #[.int .i64 k.kind, .string k.peer, .int .i64 k.fam] 30)
  have HA := Lib.hid hA
  have HJ := Lib.hid hj
  have HKL := Lib.hid hkl
  clear hA hj hkl h hk
  unfold WK.v
  generalize hw0 : w.alloc (.cells #[.int .i64 k.kind, .string k.peer, .int .i64 k.fam] 30) = w0 at HL HK HA
  have c0 := HL.out.blk.c1
  obtain ⟨k0, k1, k2⟩ := HK.out.c3
  go_enter Try.func13, Try.ntmps13
  go_wp2_with fail
  clear hw0
  refine (wnone_any b m _ c0).mono ?_
  rintro e w1 ⟨rfl, rfl⟩
  have hlk := fun nd => (HL.out.map.drew nd).lookup_none (t := 48) wkLaw Try.underlying48 (zero_u64 _) HKL.out (tmL_no HJ.out)
  unfold WK.v at hlk
  go_wp2_with fail
  refine wp_region_held_drew (S := fun w' => ∃ n, w' = w1.drewN n) (by kernel_rfl) (⟨1, rfl⟩) (fun hHeld => ?_)
  refine wpAnyH_take (i := 0) (oi := { dst := some 10, op := Op.move (Operand.tmp 0), type := 23, pos := "wheel.go:51", after := #[], guard := none }) (v := ?_) rfl (by kernel_rfl) (by kernel_rfl) (by kernel_rfl) (fun _ _ _ h => h) (Or.inl ⟨by rfl, ?_⟩) hHeld ?_
  rotate_left
  · intro w hSw
    obtain ⟨nd, rfl⟩ := hSw
    go_simp
    try with_reducible rfl
  try simp only [Act.put, List.setIfInBounds_toArray, List.set_cons_zero, List.set_cons_succ]
  refine wpAnyH_take (i := 1) (oi := { dst := some 11, op := Op.nilCheck (Operand.tmp 10), type := 0, pos := "wheel.go:51", after := #[{ on := 0, ground := Ground.data }], guard := none }) (v := ?_) rfl (by kernel_rfl) (by kernel_rfl) (by kernel_rfl) (fun _ _ _ h => h) (Or.inl ⟨by rfl, ?_⟩) hHeld ?_
  rotate_left
  · intro w hSw
    obtain ⟨nd, rfl⟩ := hSw
    go_simp
    try with_reducible rfl
  try simp only [Act.put, List.setIfInBounds_toArray, List.set_cons_zero, List.set_cons_succ]
  refine wpAnyH_take (i := 2) (oi := { dst := some 12, op := Op.fieldAddr 50 (Operand.tmp 11) 0, type := 0, pos := "wheel.go:51", after := #[{ on := 1, ground := Ground.data }], guard := none }) (v := ?_) rfl (by kernel_rfl) (by kernel_rfl) (by kernel_rfl) (fun _ _ _ h => h) (Or.inl ⟨by rfl, ?_⟩) hHeld ?_
  rotate_left
  · intro w hSw
    obtain ⟨nd, rfl⟩ := hSw
    go_simp
    try with_reducible rfl
  try simp only [Act.put, List.setIfInBounds_toArray, List.set_cons_zero, List.set_cons_succ]
  refine wpAnyH_take (i := 3) (oi := { dst := some 13, op := Op.load 48 (Operand.tmp 12), type := 48, pos := "wheel.go:51", after := #[{ on := 2, ground := Ground.data }], guard := none }) (v := ?_) rfl (by kernel_rfl) (by kernel_rfl) (by kernel_rfl) (fun _ _ _ h => h) (Or.inl ⟨by rfl, ?_⟩) hHeld ?_
  rotate_left
  · intro w hSw
    obtain ⟨nd, rfl⟩ := hSw
    go_simp
    try with_reducible rfl
  try simp only [Act.put, List.setIfInBounds_toArray, List.set_cons_zero, List.set_cons_succ]
  refine wpAnyH_take (i := 4) (oi := { dst := some 14, op := Op.load 30 (Operand.tmp 3), type := 30, pos := "wheel.go:51", after := #[], guard := none }) (v := ?_) rfl (by kernel_rfl) (by kernel_rfl) (by kernel_rfl) (fun _ _ _ h => h) (Or.inl ⟨by rfl, ?_⟩) hHeld ?_
  rotate_left
  · intro w hSw
    obtain ⟨nd, rfl⟩ := hSw
    go_simp
    try with_reducible rfl
  try simp only [Act.put, List.setIfInBounds_toArray, List.set_cons_zero, List.set_cons_succ]
  refine wpAnyH_take (i := 5) (oi := { dst := some 15, op := Op.lookup 48 (Operand.tmp 13) (Operand.tmp 14) true, type := 36, pos := "wheel.go:51", after := #[{ on := 3, ground := Ground.data }, { on := 4, ground := Ground.data }], guard := none }) (v := ?_) rfl (by kernel_rfl) (by kernel_rfl) (by kernel_rfl) (fun _ _ _ h => h) (Or.inl ⟨by rfl, ?_⟩) hHeld ?_
  rotate_left
  · intro w hSw
    obtain ⟨nd, rfl⟩ := hSw
    go_simp
    try with_reducible rfl
  try simp only [Act.put, List.setIfInBounds_toArray, List.set_cons_zero, List.set_cons_succ]
  refine wpAnyH_take (i := 6) (oi := { dst := some 9, op := Op.move (Operand.tmp 15), type := 36, pos := "wheel.go:51", after := #[{ on := 5, ground := Ground.data }], guard := none }) (v := ?_) rfl (by kernel_rfl) (by kernel_rfl) (by kernel_rfl) (fun _ _ _ h => h) (Or.inl ⟨by rfl, ?_⟩) hHeld ?_
  rotate_left
  · intro w hSw
    obtain ⟨nd, rfl⟩ := hSw
    go_simp
    try with_reducible rfl
  try simp only [Act.put, List.setIfInBounds_toArray, List.set_cons_zero, List.set_cons_succ]
  refine wpAnyH_take (i := 7) (oi := { dst := some 16, op := Op.extract (Operand.tmp 9) 0, type := 27, pos := "wheel.go:51", after := #[{ on := 6, ground := Ground.data }], guard := none }) (v := ?_) rfl (by kernel_rfl) (by kernel_rfl) (by kernel_rfl) (fun _ _ _ h => h) (Or.inl ⟨by rfl, ?_⟩) hHeld ?_
  rotate_left
  · intro w hSw
    obtain ⟨nd, rfl⟩ := hSw
    go_simp
    try with_reducible rfl
  try simp only [Act.put, List.setIfInBounds_toArray, List.set_cons_zero, List.set_cons_succ]
  refine wpAnyH_take (i := 8) (oi := { dst := some 17, op := Op.extract (Operand.tmp 9) 1, type := 4, pos := "wheel.go:51", after := #[{ on := 6, ground := Ground.data }, { on := 9, ground := Ground.gcOnly Departure.lateStores }], guard := none }) (v := ?_) rfl (by kernel_rfl) (by kernel_rfl) (by kernel_rfl) (fun _ _ _ h => h) (Or.inl ⟨by rfl, ?_⟩) hHeld ?_
  rotate_left
  · intro w hSw
    obtain ⟨nd, rfl⟩ := hSw
    go_simp
    try with_reducible rfl
  try simp only [Act.put, List.setIfInBounds_toArray, List.set_cons_zero, List.set_cons_succ]
  refine wpAnyH_take (i := 9) (oi := { dst := some 5, op := Op.assign (Operand.tmp 16), type := 27, pos := "wheel.go:51", after := #[{ on := 7, ground := Ground.data }, { on := 0, ground := Ground.phase }, { on := 1, ground := Ground.phase }, { on := 2, ground := Ground.phase }, { on := 3, ground := Ground.phase }, { on := 4, ground := Ground.phase }, { on := 5, ground := Ground.phase }, { on := 6, ground := Ground.phase }, { on := 7, ground := Ground.phase }, { on := 8, ground := Ground.textOnly Departure.lateStores }], guard := none }) (v := ?_) rfl (by kernel_rfl) (by kernel_rfl) (by kernel_rfl) (fun _ _ _ h => h) (Or.inl ⟨by rfl, ?_⟩) hHeld ?_
  rotate_left
  · intro w hSw
    obtain ⟨nd, rfl⟩ := hSw
    go_simp
    try with_reducible rfl
  try simp only [Act.put, List.setIfInBounds_toArray, List.set_cons_zero, List.set_cons_succ]
  refine wpAnyH_take (i := 10) (oi := { dst := some 6, op := Op.assign (Operand.tmp 17), type := 4, pos := "wheel.go:51", after := #[{ on := 8, ground := Ground.data }, { on := 9, ground := Ground.chain }, { on := 0, ground := Ground.phase }, { on := 1, ground := Ground.phase }, { on := 2, ground := Ground.phase }, { on := 3, ground := Ground.phase }, { on := 4, ground := Ground.phase }, { on := 5, ground := Ground.phase }, { on := 6, ground := Ground.phase }, { on := 7, ground := Ground.phase }, { on := 8, ground := Ground.phase }, { on := 9, ground := Ground.phase }], guard := none }) (v := ?_) rfl (by kernel_rfl) (by kernel_rfl) (by kernel_rfl) (fun _ _ _ h => h) (Or.inl ⟨by rfl, ?_⟩) hHeld ?_
  rotate_left
  · intro w hSw
    obtain ⟨nd, rfl⟩ := hSw
    go_simp
    try with_reducible rfl
  try simp only [Act.put, List.setIfInBounds_toArray, List.set_cons_zero, List.set_cons_succ]
  refine wpAnyH_done (by kernel_rfl) ?_ _
  clear hHeld hlk c0 k0 k1 k2
  have HL3 : Hid (WheelAt w1.drew b m S) := HL.out.drew 1
  have HK3 : Hid (CellsAt w1.drew w.heap.size #[.int .i64 k.kind, .string k.peer, .int .i64 k.fam] 30) := HK.out.drew 1
  have HA3 : Hid (Below w.heap.size w w1.drew) := below_drewN HA.out 1
  clear HL HK HA
  generalize w1.drew = w3 at HL3 HK3 HA3 ⊢
  go_wp2_with fail
  have hmap : MapAt Try.prog 30 w3.drew m (tmL S) := HL3.out.map.drew 1
  obtain ⟨W1, e1, g1, M1⟩ := hmap.delete_none (t := 48) (ty := 0) wkLaw Try.underlying48 HKL.out (tmL_no HJ.out)
  have G' : GrownX (fun i => i = m) w W1 := (GrownX.of_below (below_drewN HA3.out 1)).trans (GrownX.of_row g1 rfl)
  have hF : WheelAt W1 b m S := ⟨(HL3.out.blk.drew 1).row g1 N1, M1, N1, HL3.out.ok, HL3.out.len⟩
  unfold WK.v at e1
  have HF := Lib.hid hF
  have HG := Lib.hid G'
  clear hF G' M1 hmap
  refine wp_region_held_drew (S := fun w' => CellsAt w' b #[.map (some m)] 50 ∧ CellsAt w' w.heap.size #[.int .i64 k.kind, .string k.peer, .int .i64 k.fam] 30) (by kernel_rfl) (And.intro (HL3.out.blk.drew 1) (HK3.out.drew 1)) (fun hHeld => ?_)
  refine wpAnyH_take (i := 0) (oi := { dst := some 18, op := Op.move (Operand.tmp 0), type := 23, pos := "wheel.go:52", after := #[], guard := none }) (v := ?_) rfl (by kernel_rfl) (by kernel_rfl) (by kernel_rfl) (fun _ _ _ h => h) (Or.inl ⟨by rfl, ?_⟩) hHeld ?_
  rotate_left
  · intro w hSw
    clear hSw
    go_simp
    try with_reducible rfl
  try simp only [Act.put, List.setIfInBounds_toArray, List.set_cons_zero, List.set_cons_succ]
  refine wpAnyH_take (i := 1) (oi := { dst := some 19, op := Op.nilCheck (Operand.tmp 18), type := 0, pos := "wheel.go:52", after := #[{ on := 0, ground := Ground.data }], guard := none }) (v := ?_) rfl (by kernel_rfl) (by kernel_rfl) (by kernel_rfl) (fun _ _ _ h => h) (Or.inl ⟨by rfl, ?_⟩) hHeld ?_
  rotate_left
  · intro w hSw
    clear hSw
    go_simp
    try with_reducible rfl
  try simp only [Act.put, List.setIfInBounds_toArray, List.set_cons_zero, List.set_cons_succ]
  refine wpAnyH_take (i := 2) (oi := { dst := some 20, op := Op.fieldAddr 50 (Operand.tmp 19) 0, type := 0, pos := "wheel.go:52", after := #[{ on := 1, ground := Ground.data }], guard := none }) (v := ?_) rfl (by kernel_rfl) (by kernel_rfl) (by kernel_rfl) (fun _ _ _ h => h) (Or.inl ⟨by rfl, ?_⟩) hHeld ?_
  rotate_left
  · intro w hSw
    clear hSw
    go_simp
    try with_reducible rfl
  try simp only [Act.put, List.setIfInBounds_toArray, List.set_cons_zero, List.set_cons_succ]
  refine wpAnyH_take (i := 3) (oi := { dst := some 21, op := Op.load 48 (Operand.tmp 20), type := 48, pos := "wheel.go:52", after := #[{ on := 2, ground := Ground.data }], guard := none }) (v := ?_) rfl (by kernel_rfl) (by kernel_rfl) (by kernel_rfl) (fun _ _ _ h => h) (Or.inl ⟨by rfl, ?_⟩) hHeld ?_
  rotate_left
  · intro w hSw
    obtain ⟨q1, q2⟩ := hSw
    have c0 := q1.c1
    obtain ⟨k0, k1, k2⟩ := q2.c3
    go_simp
    try with_reducible rfl
  try simp only [Act.put, List.setIfInBounds_toArray, List.set_cons_zero, List.set_cons_succ]
  refine wpAnyH_take (i := 4) (oi := { dst := some 22, op := Op.load 30 (Operand.tmp 3), type := 30, pos := "wheel.go:52", after := #[], guard := none }) (v := ?_) rfl (by kernel_rfl) (by kernel_rfl) (by kernel_rfl) (fun _ _ _ h => h) (Or.inl ⟨by rfl, ?_⟩) hHeld ?_
  rotate_left
  · intro w hSw
    obtain ⟨q1, q2⟩ := hSw
    have c0 := q1.c1
    obtain ⟨k0, k1, k2⟩ := q2.c3
    go_simp
    try with_reducible rfl
  try simp only [Act.put, List.setIfInBounds_toArray, List.set_cons_zero, List.set_cons_succ]
  refine wpAnyH_ready (rs := [5]) (by kernel_rfl) (by simp) ?_
  refine AllReadyH.cons (o := { dst := none, op := Op.call { callee := Callee.builtin Builtin.delete, args := #[Operand.tmp 21, Operand.tmp 22], argTypes := #[48, 30] }, type := 0, pos := "wheel.go:52", after := #[{ on := 3, ground := Ground.data }, { on := 4, ground := Ground.data }], guard := none }) rfl (fun K hK => ?_) AllReadyH.nil
  go_simp
  skip
  refine hK.out _ _ (And.intro (hHeld.1.row g1 N1) (hHeld.2.row g1 N3)) (fun hHeld => ?_)
  clear hK K
  try simp only [Act.put, List.setIfInBounds_toArray, List.set_cons_zero, List.set_cons_succ]
  refine wpAnyH_done (by kernel_rfl) ?_ _
  clear hHeld
  go_wp2_with fail
  go_ret
  exact ⟨rfl, HF.out, HG.out⟩
set_option maxRecDepth 100000 in
set_option maxHeartbeats 4000000 in
theorem warm_some (w : World) (b m j : Nat) (S : List Tm) (k : WK) (n old : Nat) (h : WheelAt w b m S) (hk : k.Ok) (hm : KMay k) (hn : n ≤ 1099511627776) (hj : S[j]? = some ⟨old, k⟩) :
    Calls Try.prog 18 #[.pointer (some ⟨b, 0, none⟩), k.v, .int .u64 n] w fun e w' => e = .returned (.int .i64 0) ∧ WheelAt w' b m (S.set j ⟨n, k⟩) ∧ GrownX (fun i => i = m) w w' := by
  obtain ⟨kl, hkl⟩ := wk_key k hk
  have lb := h.lt.1
  have lm := h.lt.2
  have N1 := h.ne
  have N3 : w.heap.size ≠ m := by omega
  have hA := Below.alloc (Below.refl w.heap.size w) (Nat.le_refl _) (.cells #[.int .i64 k.kind, .string k.peer, .int .i64 k.fam] 30)
  have HL := Lib.hid (h.below hA (Nat.le_refl _))
  have HK := Lib.hid (CellsAt.new w #[.int .i64 k.kind, .string k.peer, .int .i64 k.fam] 30)
  have HA := Lib.hid hA
  have HJ := Lib.hid hj
  have HKL := Lib.hid hkl
  obtain ⟨q1, q2⟩ := hm.kind
  obtain ⟨q3, q4⟩ := hm.fam
  have HN : Hid (∀ w, Calls Try.prog 31 #[.string k.peer] w fun e w' => e = .returned (.bool true) ∧ w' = w) := Lib.hid (fun w => named_yes k.peer hm.peer w)
  have HKO := Lib.hid hk
  clear hA hj hkl h hk hm
  unfold WK.v
  generalize hw0 : w.alloc (.cells #[.int .i64 k.kind, .string k.peer, .int .i64 k.fam] 30) = w0 at HL HK HA
  have c0 := HL.out.blk.c1
  obtain ⟨k0, k1, k2⟩ := HK.out.c3
  go_enter Try.func18, Try.ntmps18
  go_wp2_with fail
  clear hw0
  refine (wnone_any b m _ c0).mono ?_
  rintro e w1 ⟨rfl, rfl⟩
  go_wp2_with fail
  refine (HN.out _).mono ?_
  rintro e w1' ⟨rfl, hw⟩
  have hw := hw.symm
  subst hw
  have hlk := fun nd => (HL.out.map.drew nd).lookup_some (t := 48) wkLaw Try.underlying48 (zero_u64 _) HKL.out (tmL_at HJ.out)
  unfold WK.v at hlk
  go_wp2_with fail
  refine wp_region_held_drew (S := fun w' => ∃ n, w' = w1.drewN n) (by kernel_rfl) (⟨1, rfl⟩) (fun hHeld => ?_)
  refine wpAnyH_take (i := 0) (oi := { dst := some 40, op := Op.move (Operand.tmp 0), type := 23, pos := "wheel.go:39", after := #[], guard := none }) (v := ?_) rfl (by kernel_rfl) (by kernel_rfl) (by kernel_rfl) (fun _ _ _ h => h) (Or.inl ⟨by rfl, ?_⟩) hHeld ?_
  rotate_left
  · intro w hSw
    obtain ⟨nd, rfl⟩ := hSw
    go_simp
    try with_reducible rfl
  try simp only [Act.put, List.setIfInBounds_toArray, List.set_cons_zero, List.set_cons_succ]
  refine wpAnyH_take (i := 1) (oi := { dst := some 41, op := Op.nilCheck (Operand.tmp 40), type := 0, pos := "wheel.go:39", after := #[{ on := 0, ground := Ground.data }], guard := none }) (v := ?_) rfl (by kernel_rfl) (by kernel_rfl) (by kernel_rfl) (fun _ _ _ h => h) (Or.inl ⟨by rfl, ?_⟩) hHeld ?_
  rotate_left
  · intro w hSw
    obtain ⟨nd, rfl⟩ := hSw
    go_simp
    try with_reducible rfl
  try simp only [Act.put, List.setIfInBounds_toArray, List.set_cons_zero, List.set_cons_succ]
  refine wpAnyH_take (i := 2) (oi := { dst := some 42, op := Op.fieldAddr 50 (Operand.tmp 41) 0, type := 0, pos := "wheel.go:39", after := #[{ on := 1, ground := Ground.data }], guard := none }) (v := ?_) rfl (by kernel_rfl) (by kernel_rfl) (by kernel_rfl) (fun _ _ _ h => h) (Or.inl ⟨by rfl, ?_⟩) hHeld ?_
  rotate_left
  · intro w hSw
    obtain ⟨nd, rfl⟩ := hSw
    go_simp
    try with_reducible rfl
  try simp only [Act.put, List.setIfInBounds_toArray, List.set_cons_zero, List.set_cons_succ]
  refine wpAnyH_take (i := 3) (oi := { dst := some 43, op := Op.load 48 (Operand.tmp 42), type := 48, pos := "wheel.go:39", after := #[{ on := 2, ground := Ground.data }], guard := none }) (v := ?_) rfl (by kernel_rfl) (by kernel_rfl) (by kernel_rfl) (fun _ _ _ h => h) (Or.inl ⟨by rfl, ?_⟩) hHeld ?_
  rotate_left
  · intro w hSw
    obtain ⟨nd, rfl⟩ := hSw
    go_simp
    try with_reducible rfl
  try simp only [Act.put, List.setIfInBounds_toArray, List.set_cons_zero, List.set_cons_succ]
  refine wpAnyH_take (i := 4) (oi := { dst := some 44, op := Op.load 30 (Operand.tmp 4), type := 30, pos := "wheel.go:39", after := #[], guard := none }) (v := ?_) rfl (by kernel_rfl) (by kernel_rfl) (by kernel_rfl) (fun _ _ _ h => h) (Or.inl ⟨by rfl, ?_⟩) hHeld ?_
  rotate_left
  · intro w hSw
    obtain ⟨nd, rfl⟩ := hSw
    go_simp
    try with_reducible rfl
  try simp only [Act.put, List.setIfInBounds_toArray, List.set_cons_zero, List.set_cons_succ]
  refine wpAnyH_take (i := 5) (oi := { dst := some 45, op := Op.lookup 48 (Operand.tmp 43) (Operand.tmp 44) true, type := 36, pos := "wheel.go:39", after := #[{ on := 3, ground := Ground.data }, { on := 4, ground := Ground.data }], guard := none }) (v := ?_) rfl (by kernel_rfl) (by kernel_rfl) (by kernel_rfl) (fun _ _ _ h => h) (Or.inl ⟨by rfl, ?_⟩) hHeld ?_
  rotate_left
  · intro w hSw
    obtain ⟨nd, rfl⟩ := hSw
    go_simp
    try with_reducible rfl
  try simp only [Act.put, List.setIfInBounds_toArray, List.set_cons_zero, List.set_cons_succ]
  refine wpAnyH_take (i := 6) (oi := { dst := some 39, op := Op.move (Operand.tmp 45), type := 36, pos := "wheel.go:39", after := #[{ on := 5, ground := Ground.data }], guard := none }) (v := ?_) rfl (by kernel_rfl) (by kernel_rfl) (by kernel_rfl) (fun _ _ _ h => h) (Or.inl ⟨by rfl, ?_⟩) hHeld ?_
  rotate_left
  · intro w hSw
    obtain ⟨nd, rfl⟩ := hSw
    go_simp
    try with_reducible rfl
  try simp only [Act.put, List.setIfInBounds_toArray, List.set_cons_zero, List.set_cons_succ]
  refine wpAnyH_take (i := 7) (oi := { dst := some 46, op := Op.extract (Operand.tmp 39) 0, type := 27, pos := "wheel.go:39", after := #[{ on := 6, ground := Ground.data }], guard := none }) (v := ?_) rfl (by kernel_rfl) (by kernel_rfl) (by kernel_rfl) (fun _ _ _ h => h) (Or.inl ⟨by rfl, ?_⟩) hHeld ?_
  rotate_left
  · intro w hSw
    obtain ⟨nd, rfl⟩ := hSw
    go_simp
    try with_reducible rfl
  try simp only [Act.put, List.setIfInBounds_toArray, List.set_cons_zero, List.set_cons_succ]
  refine wpAnyH_take (i := 8) (oi := { dst := some 47, op := Op.extract (Operand.tmp 39) 1, type := 4, pos := "wheel.go:39", after := #[{ on := 6, ground := Ground.data }, { on := 9, ground := Ground.gcOnly Departure.lateStores }], guard := none }) (v := ?_) rfl (by kernel_rfl) (by kernel_rfl) (by kernel_rfl) (fun _ _ _ h => h) (Or.inl ⟨by rfl, ?_⟩) hHeld ?_
  rotate_left
  · intro w hSw
    obtain ⟨nd, rfl⟩ := hSw
    go_simp
    try with_reducible rfl
  try simp only [Act.put, List.setIfInBounds_toArray, List.set_cons_zero, List.set_cons_succ]
  refine wpAnyH_take (i := 9) (oi := { dst := some 7, op := Op.assign (Operand.tmp 46), type := 27, pos := "wheel.go:39", after := #[{ on := 7, ground := Ground.data }, { on := 0, ground := Ground.phase }, { on := 1, ground := Ground.phase }, { on := 2, ground := Ground.phase }, { on := 3, ground := Ground.phase }, { on := 4, ground := Ground.phase }, { on := 5, ground := Ground.phase }, { on := 6, ground := Ground.phase }, { on := 7, ground := Ground.phase }, { on := 8, ground := Ground.textOnly Departure.lateStores }], guard := none }) (v := ?_) rfl (by kernel_rfl) (by kernel_rfl) (by kernel_rfl) (fun _ _ _ h => h) (Or.inl ⟨by rfl, ?_⟩) hHeld ?_
  rotate_left
  · intro w hSw
    obtain ⟨nd, rfl⟩ := hSw
    go_simp
    try with_reducible rfl
  try simp only [Act.put, List.setIfInBounds_toArray, List.set_cons_zero, List.set_cons_succ]
  refine wpAnyH_take (i := 10) (oi := { dst := some 8, op := Op.assign (Operand.tmp 47), type := 4, pos := "wheel.go:39", after := #[{ on := 8, ground := Ground.data }, { on := 9, ground := Ground.chain }, { on := 0, ground := Ground.phase }, { on := 1, ground := Ground.phase }, { on := 2, ground := Ground.phase }, { on := 3, ground := Ground.phase }, { on := 4, ground := Ground.phase }, { on := 5, ground := Ground.phase }, { on := 6, ground := Ground.phase }, { on := 7, ground := Ground.phase }, { on := 8, ground := Ground.phase }, { on := 9, ground := Ground.phase }], guard := none }) (v := ?_) rfl (by kernel_rfl) (by kernel_rfl) (by kernel_rfl) (fun _ _ _ h => h) (Or.inl ⟨by rfl, ?_⟩) hHeld ?_
  rotate_left
  · intro w hSw
    obtain ⟨nd, rfl⟩ := hSw
    go_simp
    try with_reducible rfl
  try simp only [Act.put, List.setIfInBounds_toArray, List.set_cons_zero, List.set_cons_succ]
  refine wpAnyH_done (by kernel_rfl) ?_ _
  clear hHeld hlk c0 k0 k1 k2
  have HL3 : Hid (WheelAt w1.drew b m S) := HL.out.drew 1
  have HK3 : Hid (CellsAt w1.drew w.heap.size #[.int .i64 k.kind, .string k.peer, .int .i64 k.fam] 30) := HK.out.drew 1
  have HA3 : Hid (Below w.heap.size w w1.drew) := below_drewN HA.out 1
  clear HL HK HA
  generalize w1.drew = w3 at HL3 HK3 HA3 ⊢
  go_wp2_with fail
  have hmap : MapAt Try.prog 30 w3.drew m (tmL S) := HL3.out.map.drew 1
  obtain ⟨W1, e1, g1, M1, z1⟩ := hmap.update_old (t := 48) wkLaw Try.underlying48 HKL.out (tmL_at HJ.out) (.int .u64 (n : Nat))
  rw [tmL_set] at M1
  have G' : GrownX (fun i => i = m) w W1 := (GrownX.of_below (below_drewN HA3.out 1)).trans (GrownX.of_row g1 rfl)
  have hF : WheelAt W1 b m (S.set j ⟨n, k⟩) := ⟨(HL3.out.blk.drew 1).row g1 N1, M1, N1, fun p hp => ?ok, by rw [List.length_set]; exact HL3.out.len⟩
  case ok =>
    rcases List.mem_or_eq_of_mem_set hp with hp | rfl
    · exact HL3.out.ok p hp
    · exact ⟨HKO.out, hn⟩
  unfold WK.v at e1
  have HF := Lib.hid hF
  have HG := Lib.hid G'
  clear hF G' M1 hmap z1
  refine wp_region_held_drew (S := fun w' => CellsAt w' b #[.map (some m)] 50 ∧ CellsAt w' w.heap.size #[.int .i64 k.kind, .string k.peer, .int .i64 k.fam] 30) (by kernel_rfl) (And.intro (HL3.out.blk.drew 1) (HK3.out.drew 1)) (fun hHeld => ?_)
  refine wpAnyH_take (i := 0) (oi := { dst := some 58, op := Op.move (Operand.tmp 0), type := 23, pos := "wheel.go:42", after := #[], guard := none }) (v := ?_) rfl (by kernel_rfl) (by kernel_rfl) (by kernel_rfl) (fun _ _ _ h => h) (Or.inl ⟨by rfl, ?_⟩) hHeld ?_
  rotate_left
  · intro w hSw
    clear hSw
    go_simp
    try with_reducible rfl
  try simp only [Act.put, List.setIfInBounds_toArray, List.set_cons_zero, List.set_cons_succ]
  refine wpAnyH_take (i := 1) (oi := { dst := some 59, op := Op.nilCheck (Operand.tmp 58), type := 0, pos := "wheel.go:42", after := #[{ on := 0, ground := Ground.data }], guard := none }) (v := ?_) rfl (by kernel_rfl) (by kernel_rfl) (by kernel_rfl) (fun _ _ _ h => h) (Or.inl ⟨by rfl, ?_⟩) hHeld ?_
  rotate_left
  · intro w hSw
    clear hSw
    go_simp
    try with_reducible rfl
  try simp only [Act.put, List.setIfInBounds_toArray, List.set_cons_zero, List.set_cons_succ]
  refine wpAnyH_take (i := 2) (oi := { dst := some 60, op := Op.fieldAddr 50 (Operand.tmp 59) 0, type := 0, pos := "wheel.go:42", after := #[{ on := 1, ground := Ground.data }], guard := none }) (v := ?_) rfl (by kernel_rfl) (by kernel_rfl) (by kernel_rfl) (fun _ _ _ h => h) (Or.inl ⟨by rfl, ?_⟩) hHeld ?_
  rotate_left
  · intro w hSw
    clear hSw
    go_simp
    try with_reducible rfl
  try simp only [Act.put, List.setIfInBounds_toArray, List.set_cons_zero, List.set_cons_succ]
  refine wpAnyH_take (i := 3) (oi := { dst := some 61, op := Op.load 48 (Operand.tmp 60), type := 48, pos := "wheel.go:42", after := #[{ on := 2, ground := Ground.data }], guard := none }) (v := ?_) rfl (by kernel_rfl) (by kernel_rfl) (by kernel_rfl) (fun _ _ _ h => h) (Or.inl ⟨by rfl, ?_⟩) hHeld ?_
  rotate_left
  · intro w hSw
    obtain ⟨q1, q2⟩ := hSw
    have c0 := q1.c1
    obtain ⟨k0, k1, k2⟩ := q2.c3
    go_simp
    try with_reducible rfl
  try simp only [Act.put, List.setIfInBounds_toArray, List.set_cons_zero, List.set_cons_succ]
  refine wpAnyH_take (i := 4) (oi := { dst := some 62, op := Op.load 30 (Operand.tmp 4), type := 30, pos := "wheel.go:42", after := #[], guard := none }) (v := ?_) rfl (by kernel_rfl) (by kernel_rfl) (by kernel_rfl) (fun _ _ _ h => h) (Or.inl ⟨by rfl, ?_⟩) hHeld ?_
  rotate_left
  · intro w hSw
    obtain ⟨q1, q2⟩ := hSw
    have c0 := q1.c1
    obtain ⟨k0, k1, k2⟩ := q2.c3
    go_simp
    try with_reducible rfl
  try simp only [Act.put, List.setIfInBounds_toArray, List.set_cons_zero, List.set_cons_succ]
  refine wpAnyH_take (i := 5) (oi := { dst := some 63, op := Op.move (Operand.tmp 2), type := 27, pos := "wheel.go:42", after := #[], guard := none }) (v := ?_) rfl (by kernel_rfl) (by kernel_rfl) (by kernel_rfl) (fun _ _ _ h => h) (Or.inl ⟨by rfl, ?_⟩) hHeld ?_
  rotate_left
  · intro w hSw
    clear hSw
    go_simp
    try with_reducible rfl
  try simp only [Act.put, List.setIfInBounds_toArray, List.set_cons_zero, List.set_cons_succ]
  refine wpAnyH_ready (rs := [6]) (by kernel_rfl) (by simp) ?_
  refine AllReadyH.cons (o := { dst := none, op := Op.mapUpdate 48 (Operand.tmp 61) (Operand.tmp 62) (Operand.tmp 63), type := 0, pos := "wheel.go:42", after := #[{ on := 3, ground := Ground.data }, { on := 4, ground := Ground.data }, { on := 5, ground := Ground.data }, { on := 0, ground := Ground.phase }, { on := 1, ground := Ground.phase }, { on := 2, ground := Ground.phase }, { on := 3, ground := Ground.phase }, { on := 4, ground := Ground.phase }, { on := 5, ground := Ground.phase }], guard := none }) rfl (fun K hK => ?_) AllReadyH.nil
  go_simp
  skip
  refine hK.out _ _ (And.intro (hHeld.1.row g1 N1) (hHeld.2.row g1 N3)) (fun hHeld => ?_)
  clear hK K
  try simp only [Act.put, List.setIfInBounds_toArray, List.set_cons_zero, List.set_cons_succ]
  refine wpAnyH_done (by kernel_rfl) ?_ _
  clear hHeld
  go_wp2_with fail
  go_ret
  exact ⟨rfl, HF.out, HG.out⟩
set_option maxRecDepth 100000 in
set_option maxHeartbeats 4000000 in
theorem warm_none (w : World) (b m : Nat) (S : List Tm) (k : WK) (n : Nat) (h : WheelAt w b m S) (hk : k.Ok) (hm : KMay k) (hn : n ≤ 1099511627776) (hj : ∀ p ∈ S, p.k ≠ k) (hfull : S.length < 1024) :
    Calls Try.prog 18 #[.pointer (some ⟨b, 0, none⟩), k.v, .int .u64 n] w fun e w' => e = .returned (.int .i64 0) ∧ WheelAt w' b m (S ++ [⟨n, k⟩]) ∧ GrownX (fun i => i = m) w w' := by
  obtain ⟨kl, hkl⟩ := wk_key k hk
  have lb := h.lt.1
  have lm := h.lt.2
  have N1 := h.ne
  have N3 : w.heap.size ≠ m := by omega
  have hA := Below.alloc (Below.refl w.heap.size w) (Nat.le_refl _) (.cells #[.int .i64 k.kind, .string k.peer, .int .i64 k.fam] 30)
  have HL := Lib.hid (h.below hA (Nat.le_refl _))
  have HK := Lib.hid (CellsAt.new w #[.int .i64 k.kind, .string k.peer, .int .i64 k.fam] 30)
  have HA := Lib.hid hA
  have HJ := Lib.hid hj
  have HKL := Lib.hid hkl
  obtain ⟨q1, q2⟩ := hm.kind
  obtain ⟨q3, q4⟩ := hm.fam
  have HN : Hid (∀ w, Calls Try.prog 31 #[.string k.peer] w fun e w' => e = .returned (.bool true) ∧ w' = w) := Lib.hid (fun w => named_yes k.peer hm.peer w)
  have hl := h.map.len_ (t := 48) Try.underlying48 3
  have e1 : (tmL S).length = S.length := by simp [tmL]
  clear hl e1
  have HKO := Lib.hid hk
  clear hA hj hkl h hk hm
  unfold WK.v
  generalize hw0 : w.alloc (.cells #[.int .i64 k.kind, .string k.peer, .int .i64 k.fam] 30) = w0 at HL HK HA
  have c0 := HL.out.blk.c1
  obtain ⟨k0, k1, k2⟩ := HK.out.c3
  go_enter Try.func18, Try.ntmps18
  go_wp2_with fail
  clear hw0
  refine (wnone_any b m _ c0).mono ?_
  rintro e w1 ⟨rfl, rfl⟩
  go_wp2_with fail
  refine (HN.out _).mono ?_
  rintro e w1' ⟨rfl, hw⟩
  have hw := hw.symm
  subst hw
  have hlk := fun nd => (HL.out.map.drew nd).lookup_none (t := 48) wkLaw Try.underlying48 (zero_u64 _) HKL.out (tmL_no HJ.out)
  unfold WK.v at hlk
  go_wp2_with fail
  refine wp_region_held_drew (S := fun w' => ∃ n, w' = w1.drewN n) (by kernel_rfl) (⟨1, rfl⟩) (fun hHeld => ?_)
  refine wpAnyH_take (i := 0) (oi := { dst := some 40, op := Op.move (Operand.tmp 0), type := 23, pos := "wheel.go:39", after := #[], guard := none }) (v := ?_) rfl (by kernel_rfl) (by kernel_rfl) (by kernel_rfl) (fun _ _ _ h => h) (Or.inl ⟨by rfl, ?_⟩) hHeld ?_
  rotate_left
  · intro w hSw
    obtain ⟨nd, rfl⟩ := hSw
    go_simp
    try with_reducible rfl
  try simp only [Act.put, List.setIfInBounds_toArray, List.set_cons_zero, List.set_cons_succ]
  refine wpAnyH_take (i := 1) (oi := { dst := some 41, op := Op.nilCheck (Operand.tmp 40), type := 0, pos := "wheel.go:39", after := #[{ on := 0, ground := Ground.data }], guard := none }) (v := ?_) rfl (by kernel_rfl) (by kernel_rfl) (by kernel_rfl) (fun _ _ _ h => h) (Or.inl ⟨by rfl, ?_⟩) hHeld ?_
  rotate_left
  · intro w hSw
    obtain ⟨nd, rfl⟩ := hSw
    go_simp
    try with_reducible rfl
  try simp only [Act.put, List.setIfInBounds_toArray, List.set_cons_zero, List.set_cons_succ]
  refine wpAnyH_take (i := 2) (oi := { dst := some 42, op := Op.fieldAddr 50 (Operand.tmp 41) 0, type := 0, pos := "wheel.go:39", after := #[{ on := 1, ground := Ground.data }], guard := none }) (v := ?_) rfl (by kernel_rfl) (by kernel_rfl) (by kernel_rfl) (fun _ _ _ h => h) (Or.inl ⟨by rfl, ?_⟩) hHeld ?_
  rotate_left
  · intro w hSw
    obtain ⟨nd, rfl⟩ := hSw
    go_simp
    try with_reducible rfl
  try simp only [Act.put, List.setIfInBounds_toArray, List.set_cons_zero, List.set_cons_succ]
  refine wpAnyH_take (i := 3) (oi := { dst := some 43, op := Op.load 48 (Operand.tmp 42), type := 48, pos := "wheel.go:39", after := #[{ on := 2, ground := Ground.data }], guard := none }) (v := ?_) rfl (by kernel_rfl) (by kernel_rfl) (by kernel_rfl) (fun _ _ _ h => h) (Or.inl ⟨by rfl, ?_⟩) hHeld ?_
  rotate_left
  · intro w hSw
    obtain ⟨nd, rfl⟩ := hSw
    go_simp
    try with_reducible rfl
  try simp only [Act.put, List.setIfInBounds_toArray, List.set_cons_zero, List.set_cons_succ]
  refine wpAnyH_take (i := 4) (oi := { dst := some 44, op := Op.load 30 (Operand.tmp 4), type := 30, pos := "wheel.go:39", after := #[], guard := none }) (v := ?_) rfl (by kernel_rfl) (by kernel_rfl) (by kernel_rfl) (fun _ _ _ h => h) (Or.inl ⟨by rfl, ?_⟩) hHeld ?_
  rotate_left
  · intro w hSw
    obtain ⟨nd, rfl⟩ := hSw
    go_simp
    try with_reducible rfl
  try simp only [Act.put, List.setIfInBounds_toArray, List.set_cons_zero, List.set_cons_succ]
  refine wpAnyH_take (i := 5) (oi := { dst := some 45, op := Op.lookup 48 (Operand.tmp 43) (Operand.tmp 44) true, type := 36, pos := "wheel.go:39", after := #[{ on := 3, ground := Ground.data }, { on := 4, ground := Ground.data }], guard := none }) (v := ?_) rfl (by kernel_rfl) (by kernel_rfl) (by kernel_rfl) (fun _ _ _ h => h) (Or.inl ⟨by rfl, ?_⟩) hHeld ?_
  rotate_left
  · intro w hSw
    obtain ⟨nd, rfl⟩ := hSw
    go_simp
    try with_reducible rfl
  try simp only [Act.put, List.setIfInBounds_toArray, List.set_cons_zero, List.set_cons_succ]
  refine wpAnyH_take (i := 6) (oi := { dst := some 39, op := Op.move (Operand.tmp 45), type := 36, pos := "wheel.go:39", after := #[{ on := 5, ground := Ground.data }], guard := none }) (v := ?_) rfl (by kernel_rfl) (by kernel_rfl) (by kernel_rfl) (fun _ _ _ h => h) (Or.inl ⟨by rfl, ?_⟩) hHeld ?_
  rotate_left
  · intro w hSw
    obtain ⟨nd, rfl⟩ := hSw
    go_simp
    try with_reducible rfl
  try simp only [Act.put, List.setIfInBounds_toArray, List.set_cons_zero, List.set_cons_succ]
  refine wpAnyH_take (i := 7) (oi := { dst := some 46, op := Op.extract (Operand.tmp 39) 0, type := 27, pos := "wheel.go:39", after := #[{ on := 6, ground := Ground.data }], guard := none }) (v := ?_) rfl (by kernel_rfl) (by kernel_rfl) (by kernel_rfl) (fun _ _ _ h => h) (Or.inl ⟨by rfl, ?_⟩) hHeld ?_
  rotate_left
  · intro w hSw
    obtain ⟨nd, rfl⟩ := hSw
    go_simp
    try with_reducible rfl
  try simp only [Act.put, List.setIfInBounds_toArray, List.set_cons_zero, List.set_cons_succ]
  refine wpAnyH_take (i := 8) (oi := { dst := some 47, op := Op.extract (Operand.tmp 39) 1, type := 4, pos := "wheel.go:39", after := #[{ on := 6, ground := Ground.data }, { on := 9, ground := Ground.gcOnly Departure.lateStores }], guard := none }) (v := ?_) rfl (by kernel_rfl) (by kernel_rfl) (by kernel_rfl) (fun _ _ _ h => h) (Or.inl ⟨by rfl, ?_⟩) hHeld ?_
  rotate_left
  · intro w hSw
    obtain ⟨nd, rfl⟩ := hSw
    go_simp
    try with_reducible rfl
  try simp only [Act.put, List.setIfInBounds_toArray, List.set_cons_zero, List.set_cons_succ]
  refine wpAnyH_take (i := 9) (oi := { dst := some 7, op := Op.assign (Operand.tmp 46), type := 27, pos := "wheel.go:39", after := #[{ on := 7, ground := Ground.data }, { on := 0, ground := Ground.phase }, { on := 1, ground := Ground.phase }, { on := 2, ground := Ground.phase }, { on := 3, ground := Ground.phase }, { on := 4, ground := Ground.phase }, { on := 5, ground := Ground.phase }, { on := 6, ground := Ground.phase }, { on := 7, ground := Ground.phase }, { on := 8, ground := Ground.textOnly Departure.lateStores }], guard := none }) (v := ?_) rfl (by kernel_rfl) (by kernel_rfl) (by kernel_rfl) (fun _ _ _ h => h) (Or.inl ⟨by rfl, ?_⟩) hHeld ?_
  rotate_left
  · intro w hSw
    obtain ⟨nd, rfl⟩ := hSw
    go_simp
    try with_reducible rfl
  try simp only [Act.put, List.setIfInBounds_toArray, List.set_cons_zero, List.set_cons_succ]
  refine wpAnyH_take (i := 10) (oi := { dst := some 8, op := Op.assign (Operand.tmp 47), type := 4, pos := "wheel.go:39", after := #[{ on := 8, ground := Ground.data }, { on := 9, ground := Ground.chain }, { on := 0, ground := Ground.phase }, { on := 1, ground := Ground.phase }, { on := 2, ground := Ground.phase }, { on := 3, ground := Ground.phase }, { on := 4, ground := Ground.phase }, { on := 5, ground := Ground.phase }, { on := 6, ground := Ground.phase }, { on := 7, ground := Ground.phase }, { on := 8, ground := Ground.phase }, { on := 9, ground := Ground.phase }], guard := none }) (v := ?_) rfl (by kernel_rfl) (by kernel_rfl) (by kernel_rfl) (fun _ _ _ h => h) (Or.inl ⟨by rfl, ?_⟩) hHeld ?_
  rotate_left
  · intro w hSw
    obtain ⟨nd, rfl⟩ := hSw
    go_simp
    try with_reducible rfl
  try simp only [Act.put, List.setIfInBounds_toArray, List.set_cons_zero, List.set_cons_succ]
  refine wpAnyH_done (by kernel_rfl) ?_ _
  clear hHeld hlk c0 k0 k1 k2
  have HL3 : Hid (WheelAt w1.drew b m S) := HL.out.drew 1
  have HK3 : Hid (CellsAt w1.drew w.heap.size #[.int .i64 k.kind, .string k.peer, .int .i64 k.fam] 30) := HK.out.drew 1
  have HA3 : Hid (Below w.heap.size w w1.drew) := below_drewN HA.out 1
  clear HL HK HA
  generalize w1.drew = w3 at HL3 HK3 HA3 ⊢
  have hl := fun nd => (HL3.out.map.drew nd).len_ (t := 48) Try.underlying48 3
  have e1 : (tmL S).length = S.length := by simp [tmL]
  rw [e1] at hl
  have hl0 := hl 0
  have hl1 := hl 1
  clear e1 hl
  change (Builtin.len_ _ _ _).run _ w3 = .ok _ w3 at hl0
  have c0 := HL3.out.blk.c1
  go_wp2_with fail
  clear hl0 hl1 c0
  have hmap : MapAt Try.prog 30 w3.drew m (tmL S) := HL3.out.map.drew 1
  obtain ⟨W1, e1, g1, M1, z1⟩ := hmap.update_new (t := 48) wkLaw Try.underlying48 HKL.out (tmL_no HJ.out) (.int .u64 (n : Nat))
  rw [tmL_snoc] at M1
  have G' : GrownX (fun i => i = m) w W1 := (GrownX.of_below (below_drewN HA3.out 1)).trans (GrownX.of_row g1 rfl)
  have hF : WheelAt W1 b m (S ++ [⟨n, k⟩]) := ⟨(HL3.out.blk.drew 1).row g1 N1, M1, N1, fun p hp => ?ok, by rw [List.length_append]; exact hfull⟩
  case ok =>
    rcases List.mem_append.1 hp with hp | hp
    · exact HL3.out.ok p hp
    · rw [List.mem_singleton] at hp
      subst hp
      exact ⟨HKO.out, hn⟩
  unfold WK.v at e1
  have HF := Lib.hid hF
  have HG := Lib.hid G'
  clear hF G' M1 hmap z1
  refine wp_region_held_drew (S := fun w' => CellsAt w' b #[.map (some m)] 50 ∧ CellsAt w' w.heap.size #[.int .i64 k.kind, .string k.peer, .int .i64 k.fam] 30) (by kernel_rfl) (And.intro (HL3.out.blk.drew 1) (HK3.out.drew 1)) (fun hHeld => ?_)
  refine wpAnyH_take (i := 0) (oi := { dst := some 58, op := Op.move (Operand.tmp 0), type := 23, pos := "wheel.go:42", after := #[], guard := none }) (v := ?_) rfl (by kernel_rfl) (by kernel_rfl) (by kernel_rfl) (fun _ _ _ h => h) (Or.inl ⟨by rfl, ?_⟩) hHeld ?_
  rotate_left
  · intro w hSw
    clear hSw
    go_simp
    try with_reducible rfl
  try simp only [Act.put, List.setIfInBounds_toArray, List.set_cons_zero, List.set_cons_succ]
  refine wpAnyH_take (i := 1) (oi := { dst := some 59, op := Op.nilCheck (Operand.tmp 58), type := 0, pos := "wheel.go:42", after := #[{ on := 0, ground := Ground.data }], guard := none }) (v := ?_) rfl (by kernel_rfl) (by kernel_rfl) (by kernel_rfl) (fun _ _ _ h => h) (Or.inl ⟨by rfl, ?_⟩) hHeld ?_
  rotate_left
  · intro w hSw
    clear hSw
    go_simp
    try with_reducible rfl
  try simp only [Act.put, List.setIfInBounds_toArray, List.set_cons_zero, List.set_cons_succ]
  refine wpAnyH_take (i := 2) (oi := { dst := some 60, op := Op.fieldAddr 50 (Operand.tmp 59) 0, type := 0, pos := "wheel.go:42", after := #[{ on := 1, ground := Ground.data }], guard := none }) (v := ?_) rfl (by kernel_rfl) (by kernel_rfl) (by kernel_rfl) (fun _ _ _ h => h) (Or.inl ⟨by rfl, ?_⟩) hHeld ?_
  rotate_left
  · intro w hSw
    clear hSw
    go_simp
    try with_reducible rfl
  try simp only [Act.put, List.setIfInBounds_toArray, List.set_cons_zero, List.set_cons_succ]
  refine wpAnyH_take (i := 3) (oi := { dst := some 61, op := Op.load 48 (Operand.tmp 60), type := 48, pos := "wheel.go:42", after := #[{ on := 2, ground := Ground.data }], guard := none }) (v := ?_) rfl (by kernel_rfl) (by kernel_rfl) (by kernel_rfl) (fun _ _ _ h => h) (Or.inl ⟨by rfl, ?_⟩) hHeld ?_
  rotate_left
  · intro w hSw
    obtain ⟨q1, q2⟩ := hSw
    have c0 := q1.c1
    obtain ⟨k0, k1, k2⟩ := q2.c3
    go_simp
    try with_reducible rfl
  try simp only [Act.put, List.setIfInBounds_toArray, List.set_cons_zero, List.set_cons_succ]
  refine wpAnyH_take (i := 4) (oi := { dst := some 62, op := Op.load 30 (Operand.tmp 4), type := 30, pos := "wheel.go:42", after := #[], guard := none }) (v := ?_) rfl (by kernel_rfl) (by kernel_rfl) (by kernel_rfl) (fun _ _ _ h => h) (Or.inl ⟨by rfl, ?_⟩) hHeld ?_
  rotate_left
  · intro w hSw
    obtain ⟨q1, q2⟩ := hSw
    have c0 := q1.c1
    obtain ⟨k0, k1, k2⟩ := q2.c3
    go_simp
    try with_reducible rfl
  try simp only [Act.put, List.setIfInBounds_toArray, List.set_cons_zero, List.set_cons_succ]
  refine wpAnyH_take (i := 5) (oi := { dst := some 63, op := Op.move (Operand.tmp 2), type := 27, pos := "wheel.go:42", after := #[], guard := none }) (v := ?_) rfl (by kernel_rfl) (by kernel_rfl) (by kernel_rfl) (fun _ _ _ h => h) (Or.inl ⟨by rfl, ?_⟩) hHeld ?_
  rotate_left
  · intro w hSw
    clear hSw
    go_simp
    try with_reducible rfl
  try simp only [Act.put, List.setIfInBounds_toArray, List.set_cons_zero, List.set_cons_succ]
  refine wpAnyH_ready (rs := [6]) (by kernel_rfl) (by simp) ?_
  refine AllReadyH.cons (o := { dst := none, op := Op.mapUpdate 48 (Operand.tmp 61) (Operand.tmp 62) (Operand.tmp 63), type := 0, pos := "wheel.go:42", after := #[{ on := 3, ground := Ground.data }, { on := 4, ground := Ground.data }, { on := 5, ground := Ground.data }, { on := 0, ground := Ground.phase }, { on := 1, ground := Ground.phase }, { on := 2, ground := Ground.phase }, { on := 3, ground := Ground.phase }, { on := 4, ground := Ground.phase }, { on := 5, ground := Ground.phase }], guard := none }) rfl (fun K hK => ?_) AllReadyH.nil
  go_simp
  skip
  refine hK.out _ _ (And.intro (hHeld.1.row g1 N1) (hHeld.2.row g1 N3)) (fun hHeld => ?_)
  clear hK K
  try simp only [Act.put, List.setIfInBounds_toArray, List.set_cons_zero, List.set_cons_succ]
  refine wpAnyH_done (by kernel_rfl) ?_ _
  clear hHeld
  go_wp2_with fail
  go_ret
  exact ⟨rfl, HF.out, HG.out⟩
end Go.Proofs.Ytcgegaahdbnacaa
