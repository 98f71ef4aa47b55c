/-
  Ways in memory; contracts of New, Add, Cost. Conditions: sizes.
-/
import Derived.Test.YthnjepehiddogaaTrP
set_option linter.unusedVariables false
set_option linter.unusedSimpArgs false
namespace Go.Proofs.Ythnjepehiddogaa
open Go.RowKit Go.MapKept

/-- the longest that covers, of what is held -/
def LongM (M : Tp → Int → Prop) (p : Tp) (x : Int) : Bool → Prop
  | false => x = 0 ∧ ∀ q y, M q y → q.fam = p.fam → q.rd = p.rd → ¬ cov q p
  | true => ∃ q, M q x ∧ q.fam = p.fam ∧ q.rd = p.rd ∧ cov q p ∧ ∀ q' y, M q' y → q'.fam = p.fam → q'.rd = p.rd → cov q' p → q'.len ≤ q.len
theorem MatchPost.q {w w' : World} {R : List Rt} {p : Tp} {e : Ending} (h : MatchPost w R p e w') : Below w.heap.size w w' ∧ ∃ P0 x b, e = .returned (.tuple #[P0, .int .i64 x, .bool b]) ∧ LongM (RMem R) p x b := by
  obtain ⟨hb, L, hl, rfl⟩ := h
  cases L with
  | none => exact ⟨hb, _, 0, false, rfl, rfl, hl⟩
  | some y =>
    obtain ⟨q, x⟩ := y
    exact ⟨hb, _, x, true, rfl, q, hl⟩
/-- ways in memory -/
structure WaysAt (w : World) (bw bt base : Nat) (v : Value) (n : Int) (R : List Rt) : Prop where
  c : CellsAt w bw #[.pointer (some ⟨bt, 0, none⟩)] 51
  t : TrieAt w bt base v n R
  b : base ≤ w.heap.size
  o : ¬ trX bt v R bw
def setM (M : Tp → Int → Prop) (p : Tp) (u : Int) (q : Tp) (x : Int) : Prop := (q = p ∧ x = u) ∨ (q ≠ p ∧ M q x)
/-- .. what they hold, whose blocks they are -/
def WaysIs (w : World) (bw : Nat) (M : Tp → Int → Prop) (X : Nat → Prop) : Prop := ∃ bt base v n R, WaysAt w bw bt base v n R ∧ (∀ q x, RMem R q x ↔ M q x) ∧ ∀ x, X x ↔ x = bw ∨ trX bt v R x
theorem WaysIs.lt {w : World} {bw : Nat} {M : Tp → Int → Prop} {X : Nat → Prop} (h : WaysIs w bw M X) : ∀ x, X x → x < w.heap.size := by
  obtain ⟨bt, base, v, n, R, ha, _, hx⟩ := h
  intro x hX
  rcases (hx x).1 hX with rfl | k
  · exact ha.c.lt
  · exact ha.t.lt x k
theorem WaysIs.keep {w w' : World} {bw : Nat} {M : Tp → Int → Prop} {X : Nat → Prop} (h : WaysIs w bw M X) (hs : w.heap.size ≤ w'.heap.size) (hk : ∀ x, X x → w'.heap[x]? = w.heap[x]?) : WaysIs w' bw M X := by
  obtain ⟨bt, base, v, n, R, ha, hm, hx⟩ := h
  exact ⟨bt, base, v, n, R, ⟨(hk bw ((hx bw).2 (Or.inl rfl))).trans ha.c, ha.t.keep fun x k => hk x ((hx x).2 (Or.inr k)), Nat.le_trans ha.b hs, ha.o⟩, hm, hx⟩
theorem WaysIs.below {w w' : World} {bw : Nat} {M : Tp → Int → Prop} {X : Nat → Prop} (h : WaysIs w bw M X) (hb : Below w.heap.size w w') : WaysIs w' bw M X := h.keep hb.size fun x hx => hb.block x (h.lt x hx)
theorem WaysIs.grownX {w w' : World} {bw : Nat} {M : Tp → Int → Prop} {X Y : Nat → Prop} (h : WaysIs w bw M X) (hg : GrownX Y w w') (hy : ∀ x, X x → ¬ Y x) : WaysIs w' bw M X := h.keep hg.size fun x hx => hg.block x (h.lt x hx) (hy x hx)
theorem WaysIs.same {w : World} {bw : Nat} {M N : Tp → Int → Prop} {X : Nat → Prop} (h : WaysIs w bw M X) (e : ∀ q x, M q x ↔ N q x) : WaysIs w bw N X := by
  obtain ⟨bt, base, v, n, R, ha, hm, hx⟩ := h
  exact ⟨bt, base, v, n, R, ha, fun q x => (hm q x).trans (e q x), hx⟩
theorem WaysIs.me {w : World} {bw : Nat} {M : Tp → Int → Prop} {X : Nat → Prop} (h : WaysIs w bw M X) : X bw := by
  obtain ⟨bt, base, v, n, R, ha, hm, hx⟩ := h
  exact (hx bw).2 (Or.inl rfl)
/-- what an Add may take -/
def wOk (fam rd : Int) (addr : ByteArray) (len cost : Int) : Prop := PrefOk fam rd addr len ∧ (fam = 1 ∨ fam = 2) ∧ 0 ≤ cost ∧ cost ≤ 1073741824
def AddPost (w : World) (bw : Nat) (M : Tp → Int → Prop) (X : Nat → Prop) (fam rd : Int) (addr : ByteArray) (len cost : Int) (e : Ending) (w' : World) : Prop :=
  (¬ wOk fam rd addr len cost ∧ e = .returned (.int .i64 2) ∧ Below w.heap.size w w') ∨
  (wOk fam rd addr len cost ∧ e = .returned (.int .i64 0) ∧ ∃ X', WaysIs w' bw (setM M ⟨fam, rd, addr, len.toNat⟩ cost) X' ∧ GrownX X w w' ∧ ∀ x, X' x → X x ∨ w.heap.size ≤ x)

set_option maxHeartbeats 1000000 in
theorem tnew_any (w : World) : Calls Try.prog 17 #[] w fun e w' => e = .returned (.pointer (some ⟨w.heap.size, 0, none⟩)) ∧ w' = w.alloc (.cells #[.bool true, .slice none 0 0, .int .i64 0] 66) := by
  go_enter Try.func17, Try.ntmps17
  go_wp2_with fail
  go_ret
  exact ⟨rfl, rfl⟩
set_option maxHeartbeats 1000000 in
theorem wnew_any (w : World) : Calls Try.prog 7 #[] w fun e w' => e = .returned (.pointer (some ⟨w.heap.size + 1, 0, none⟩)) ∧ w' = (w.alloc (.cells #[.bool true, .slice none 0 0, .int .i64 0] 66)).alloc (.cells #[.pointer (some ⟨w.heap.size, 0, none⟩)] 51) := by
  go_enter Try.func7, Try.ntmps7
  go_wp2_with fail
  refine (tnew_any _).mono ?_
  rintro e w1 ⟨rfl, rfl⟩
  go_wp2_with fail
  go_ret
  exact ⟨by simp, rfl⟩
theorem ways_new (w : World) : WaysIs ((w.alloc (.cells #[.bool true, .slice none 0 0, .int .i64 0] 66)).alloc (.cells #[.pointer (some ⟨w.heap.size, 0, none⟩)] 51)) (w.heap.size + 1) (fun _ _ => False) (fun x => x = w.heap.size + 1 ∨ x = w.heap.size) := by
  refine ⟨w.heap.size, w.heap.size, .slice none 0 0, 0, [], ⟨CellsAt.new' _ _ (by simp) _ _, ⟨(CellsAt.new w _ _).alloc _, OwnM.nil _ _ _ _, ?_, ?_, ?_, List.Pairwise.nil, List.Pairwise.nil, ?_, ?_, ?_⟩, by simp; omega, ?_⟩, ?_, ?_⟩
  · intro r hr; cases hr
  · intro r hr; cases hr
  · intro r hr; cases hr
  · intro r hr; cases hr
  · intro r hr; cases hr
  · intro k hk; cases hk
  · rintro (h | h | ⟨r, hr, _⟩)
    · omega
    · cases h
    · cases hr
  · intro q x
    constructor
    · rintro ⟨r, hr, _⟩
      cases hr
    · exact False.elim
  · intro x
    constructor
    · rintro (h | h)
      · exact Or.inl h
      · exact Or.inr (Or.inl h)
    · rintro (h | h | h | ⟨r, hr, _⟩)
      · exact Or.inl h
      · exact Or.inr h
      · cases h
      · cases hr
theorem wnone_any (bw : Nat) (a : Addr) (w : World) (h : w.cell? ⟨bw, 0, none⟩ = some (.pointer (some a))) : Calls Try.prog 18 #[.pointer (some ⟨bw, 0, none⟩)] w fun e w' => e = .returned (.bool false) ∧ w' = w := by
  go_enter Try.func18, Try.ntmps18
  go_wp2_with fail
  go_ret
  exact ⟨rfl, rfl⟩
set_option maxRecDepth 100000 in
set_option maxHeartbeats 4000000 in
theorem tset_bad (fam rd : Int) (addr : ByteArray) (len u : Int) (ha : addr.size ≤ 9223372036854775807) (hno : ¬ PrefOk fam rd addr len) (bt : Nat) (w : World) (h : w.cell? ⟨bt, 0, none⟩ = some (.bool true)) (hbt : bt < w.heap.size) :
    Calls Try.prog 19 #[.pointer (some ⟨bt, 0, none⟩), .agg #[.int .i64 fam, .int .u64 rd, .string addr, .int .i64 len], .int .i64 u] w fun e w' => e = .returned (.int .i64 2) ∧ Below w.heap.size w w' := by
  have HCK := Lib.hid (fun w => check_any fam rd addr len w ha)
  rw [show prefC fam rd addr len = 2 from if_neg hno] at HCK
  have HC0 : Hid ((w.alloc (.cells #[.int .i64 fam, .int .u64 rd, .string addr, .int .i64 len] 30)).cell? ⟨bt, 0, none⟩ = some (.bool true)) := (Below.cell ((Below.refl w.heap.size w).alloc (Nat.le_refl _) _) (p := ⟨bt, 0, none⟩) hbt).trans h
  clear hno
  go_enter Try.func19, Try.ntmps19
  go_wp2_with fail
  refine (tnone_any bt _ HC0.out).mono ?_
  rintro e w1 ⟨rfl, hw1⟩
  subst hw1
  go_wp2_with fail
  refine (HCK.out _).mono ?_
  rintro e w1 ⟨rfl, hb1⟩
  have HB1 : Hid (Below w.heap.size w w1) := by
    show Below _ _ _
    exact ((Below.refl _ _).alloc (Nat.le_refl _) _).trans (hb1.mono (by simp))
  clear hb1
  go_wp2_with fail
  go_ret
  exact ⟨rfl, HB1.out⟩
set_option maxRecDepth 100000 in
set_option maxHeartbeats 4000000 in
theorem add_fam (fam rd : Int) (addr : ByteArray) (len cost : Int) (ha : addr.size ≤ 9223372036854775807) (bw bt base : Nat) (v : Value) (n : Int) (R : List Rt) (w : World) (h : WaysAt w bw bt base v n R) (h1 : ¬ (fam = 1 ∨ fam = 2)) :
    Calls Try.prog 8 #[.pointer (some ⟨bw, 0, none⟩), .agg #[.int .i64 fam, .int .u64 rd, .string addr, .int .i64 len], .int .i64 cost] w (fun e w' => e = .returned (.int .i64 2) ∧ Below w.heap.size w w') := by
  have HW := Lib.hid h
  have w0 := h.c.c1
  have hbw := h.c.lt
  have HT := Lib.hid h.t
  have e1 : (fam == 1) = false := by rw [beq_eq_false_iff_ne]; omega
  have e2 : (fam == 2) = false := by rw [beq_eq_false_iff_ne]; omega
  have e3 : (fam != 1) = true := by rw [bne, e1]; rfl
  have e4 : (fam != 2) = true := by rw [bne, e2]; rfl
  clear h1
  clear h
  have HB0 : Hid (Below w.heap.size w (w.alloc (.cells #[.int .i64 fam, .int .u64 rd, .string addr, .int .i64 len] 30))) := by
    show Below _ _ _
    exact (Below.refl _ _).alloc (Nat.le_refl _) _
  have HP0 : Hid (CellsAt (w.alloc (.cells #[.int .i64 fam, .int .u64 rd, .string addr, .int .i64 len] 30)) w.heap.size #[.int .i64 fam, .int .u64 rd, .string addr, .int .i64 len] 30) := CellsAt.new _ _ _
  have HC0 : Hid (CellsAt (w.alloc (.cells #[.int .i64 fam, .int .u64 rd, .string addr, .int .i64 len] 30)) bw #[.pointer (some ⟨bt, 0, none⟩)] 51) := HW.out.c.alloc _
  go_enter Try.func8, Try.ntmps8
  go_wp2_with fail
  generalize w.alloc (.cells #[.int .i64 fam, .int .u64 rd, .string addr, .int .i64 len] 30) = W at HB0 HP0 HC0 ⊢
  refine (wnone_any bw ⟨bt, 0, none⟩ _ HC0.out.c1).mono ?_
  rintro e w1 ⟨rfl, hw1⟩
  have hw1 := hw1.symm
  subst hw1
  obtain ⟨p0, p1, p2, p3, _⟩ := c4_at HP0.out
  clear w0
  have w0 := HC0.out.c1
  go_wp2_with fail
  go_ret
  exact ⟨rfl, HB0.out⟩
set_option maxRecDepth 100000 in
set_option maxHeartbeats 4000000 in
theorem add_neg1 (rd : Int) (addr : ByteArray) (len cost : Int) (ha : addr.size ≤ 9223372036854775807) (bw bt base : Nat) (v : Value) (n : Int) (R : List Rt) (w : World) (h : WaysAt w bw bt base v n R) (h2 : cost < 0) :
    Calls Try.prog 8 #[.pointer (some ⟨bw, 0, none⟩), .agg #[.int .i64 1, .int .u64 rd, .string addr, .int .i64 len], .int .i64 cost] w (fun e w' => e = .returned (.int .i64 2) ∧ Below w.heap.size w w') := by
  have HW := Lib.hid h
  have w0 := h.c.c1
  have hbw := h.c.lt
  have HT := Lib.hid h.t
  have e3 : decide (cost < 0) = true := decide_eq_true h2
  clear h2
  clear h
  have HB0 : Hid (Below w.heap.size w (w.alloc (.cells #[.int .i64 1, .int .u64 rd, .string addr, .int .i64 len] 30))) := by
    show Below _ _ _
    exact (Below.refl _ _).alloc (Nat.le_refl _) _
  have HP0 : Hid (CellsAt (w.alloc (.cells #[.int .i64 1, .int .u64 rd, .string addr, .int .i64 len] 30)) w.heap.size #[.int .i64 1, .int .u64 rd, .string addr, .int .i64 len] 30) := CellsAt.new _ _ _
  have HC0 : Hid (CellsAt (w.alloc (.cells #[.int .i64 1, .int .u64 rd, .string addr, .int .i64 len] 30)) bw #[.pointer (some ⟨bt, 0, none⟩)] 51) := HW.out.c.alloc _
  go_enter Try.func8, Try.ntmps8
  go_wp2_with fail
  generalize w.alloc (.cells #[.int .i64 1, .int .u64 rd, .string addr, .int .i64 len] 30) = W at HB0 HP0 HC0 ⊢
  refine (wnone_any bw ⟨bt, 0, none⟩ _ HC0.out.c1).mono ?_
  rintro e w1 ⟨rfl, hw1⟩
  have hw1 := hw1.symm
  subst hw1
  obtain ⟨p0, p1, p2, p3, _⟩ := c4_at HP0.out
  clear w0
  have w0 := HC0.out.c1
  go_wp2_with fail
  go_ret
  exact ⟨rfl, HB0.out⟩
set_option maxRecDepth 100000 in
set_option maxHeartbeats 4000000 in
theorem add_neg2 (rd : Int) (addr : ByteArray) (len cost : Int) (ha : addr.size ≤ 9223372036854775807) (bw bt base : Nat) (v : Value) (n : Int) (R : List Rt) (w : World) (h : WaysAt w bw bt base v n R) (h2 : cost < 0) :
    Calls Try.prog 8 #[.pointer (some ⟨bw, 0, none⟩), .agg #[.int .i64 2, .int .u64 rd, .string addr, .int .i64 len], .int .i64 cost] w (fun e w' => e = .returned (.int .i64 2) ∧ Below w.heap.size w w') := by
  have HW := Lib.hid h
  have w0 := h.c.c1
  have hbw := h.c.lt
  have HT := Lib.hid h.t
  have e3 : decide (cost < 0) = true := decide_eq_true h2
  clear h2
  clear h
  have HB0 : Hid (Below w.heap.size w (w.alloc (.cells #[.int .i64 2, .int .u64 rd, .string addr, .int .i64 len] 30))) := by
    show Below _ _ _
    exact (Below.refl _ _).alloc (Nat.le_refl _) _
  have HP0 : Hid (CellsAt (w.alloc (.cells #[.int .i64 2, .int .u64 rd, .string addr, .int .i64 len] 30)) w.heap.size #[.int .i64 2, .int .u64 rd, .string addr, .int .i64 len] 30) := CellsAt.new _ _ _
  have HC0 : Hid (CellsAt (w.alloc (.cells #[.int .i64 2, .int .u64 rd, .string addr, .int .i64 len] 30)) bw #[.pointer (some ⟨bt, 0, none⟩)] 51) := HW.out.c.alloc _
  go_enter Try.func8, Try.ntmps8
  go_wp2_with fail
  generalize w.alloc (.cells #[.int .i64 2, .int .u64 rd, .string addr, .int .i64 len] 30) = W at HB0 HP0 HC0 ⊢
  refine (wnone_any bw ⟨bt, 0, none⟩ _ HC0.out.c1).mono ?_
  rintro e w1 ⟨rfl, hw1⟩
  have hw1 := hw1.symm
  subst hw1
  obtain ⟨p0, p1, p2, p3, _⟩ := c4_at HP0.out
  clear w0
  have w0 := HC0.out.c1
  go_wp2_with fail
  go_ret
  exact ⟨rfl, HB0.out⟩
set_option maxRecDepth 100000 in
set_option maxHeartbeats 4000000 in
theorem add_dear1 (rd : Int) (addr : ByteArray) (len cost : Int) (ha : addr.size ≤ 9223372036854775807) (bw bt base : Nat) (v : Value) (n : Int) (R : List Rt) (w : World) (h : WaysAt w bw bt base v n R) (h2 : ¬ cost < 0) (h3 : 1073741824 < cost) :
    Calls Try.prog 8 #[.pointer (some ⟨bw, 0, none⟩), .agg #[.int .i64 1, .int .u64 rd, .string addr, .int .i64 len], .int .i64 cost] w (fun e w' => e = .returned (.int .i64 2) ∧ Below w.heap.size w w') := by
  have HW := Lib.hid h
  have w0 := h.c.c1
  have hbw := h.c.lt
  have HT := Lib.hid h.t
  have e3 : decide (cost < 0) = false := decide_eq_false h2
  have e4 : decide (1073741824 < cost) = true := decide_eq_true h3
  clear h2 h3
  clear h
  have HB0 : Hid (Below w.heap.size w (w.alloc (.cells #[.int .i64 1, .int .u64 rd, .string addr, .int .i64 len] 30))) := by
    show Below _ _ _
    exact (Below.refl _ _).alloc (Nat.le_refl _) _
  have HP0 : Hid (CellsAt (w.alloc (.cells #[.int .i64 1, .int .u64 rd, .string addr, .int .i64 len] 30)) w.heap.size #[.int .i64 1, .int .u64 rd, .string addr, .int .i64 len] 30) := CellsAt.new _ _ _
  have HC0 : Hid (CellsAt (w.alloc (.cells #[.int .i64 1, .int .u64 rd, .string addr, .int .i64 len] 30)) bw #[.pointer (some ⟨bt, 0, none⟩)] 51) := HW.out.c.alloc _
  go_enter Try.func8, Try.ntmps8
  go_wp2_with fail
  generalize w.alloc (.cells #[.int .i64 1, .int .u64 rd, .string addr, .int .i64 len] 30) = W at HB0 HP0 HC0 ⊢
  refine (wnone_any bw ⟨bt, 0, none⟩ _ HC0.out.c1).mono ?_
  rintro e w1 ⟨rfl, hw1⟩
  have hw1 := hw1.symm
  subst hw1
  obtain ⟨p0, p1, p2, p3, _⟩ := c4_at HP0.out
  clear w0
  have w0 := HC0.out.c1
  go_wp2_with fail
  go_ret
  exact ⟨rfl, HB0.out⟩
set_option maxRecDepth 100000 in
set_option maxHeartbeats 4000000 in
theorem add_dear2 (rd : Int) (addr : ByteArray) (len cost : Int) (ha : addr.size ≤ 9223372036854775807) (bw bt base : Nat) (v : Value) (n : Int) (R : List Rt) (w : World) (h : WaysAt w bw bt base v n R) (h2 : ¬ cost < 0) (h3 : 1073741824 < cost) :
    Calls Try.prog 8 #[.pointer (some ⟨bw, 0, none⟩), .agg #[.int .i64 2, .int .u64 rd, .string addr, .int .i64 len], .int .i64 cost] w (fun e w' => e = .returned (.int .i64 2) ∧ Below w.heap.size w w') := by
  have HW := Lib.hid h
  have w0 := h.c.c1
  have hbw := h.c.lt
  have HT := Lib.hid h.t
  have e3 : decide (cost < 0) = false := decide_eq_false h2
  have e4 : decide (1073741824 < cost) = true := decide_eq_true h3
  clear h2 h3
  clear h
  have HB0 : Hid (Below w.heap.size w (w.alloc (.cells #[.int .i64 2, .int .u64 rd, .string addr, .int .i64 len] 30))) := by
    show Below _ _ _
    exact (Below.refl _ _).alloc (Nat.le_refl _) _
  have HP0 : Hid (CellsAt (w.alloc (.cells #[.int .i64 2, .int .u64 rd, .string addr, .int .i64 len] 30)) w.heap.size #[.int .i64 2, .int .u64 rd, .string addr, .int .i64 len] 30) := CellsAt.new _ _ _
  have HC0 : Hid (CellsAt (w.alloc (.cells #[.int .i64 2, .int .u64 rd, .string addr, .int .i64 len] 30)) bw #[.pointer (some ⟨bt, 0, none⟩)] 51) := HW.out.c.alloc _
  go_enter Try.func8, Try.ntmps8
  go_wp2_with fail
  generalize w.alloc (.cells #[.int .i64 2, .int .u64 rd, .string addr, .int .i64 len] 30) = W at HB0 HP0 HC0 ⊢
  refine (wnone_any bw ⟨bt, 0, none⟩ _ HC0.out.c1).mono ?_
  rintro e w1 ⟨rfl, hw1⟩
  have hw1 := hw1.symm
  subst hw1
  obtain ⟨p0, p1, p2, p3, _⟩ := c4_at HP0.out
  clear w0
  have w0 := HC0.out.c1
  go_wp2_with fail
  go_ret
  exact ⟨rfl, HB0.out⟩
set_option maxRecDepth 100000 in
set_option maxHeartbeats 4000000 in
theorem add_bad1 (rd : Int) (addr : ByteArray) (len cost : Int) (ha : addr.size ≤ 9223372036854775807) (bw bt base : Nat) (v : Value) (n : Int) (R : List Rt) (w : World) (h : WaysAt w bw bt base v n R) (h2 : ¬ cost < 0) (h3 : ¬ 1073741824 < cost) (hno : ¬ PrefOk 1 rd addr len) :
    Calls Try.prog 8 #[.pointer (some ⟨bw, 0, none⟩), .agg #[.int .i64 1, .int .u64 rd, .string addr, .int .i64 len], .int .i64 cost] w (fun e w' => e = .returned (.int .i64 2) ∧ Below w.heap.size w w') := by
  have HW := Lib.hid h
  have w0 := h.c.c1
  have hbw := h.c.lt
  have HT := Lib.hid h.t
  have e3 : decide (cost < 0) = false := decide_eq_false h2
  have e4 : decide (1073741824 < cost) = false := decide_eq_false h3
  have HNO := Lib.hid hno
  clear hno h2 h3
  clear h
  have HB0 : Hid (Below w.heap.size w (w.alloc (.cells #[.int .i64 1, .int .u64 rd, .string addr, .int .i64 len] 30))) := by
    show Below _ _ _
    exact (Below.refl _ _).alloc (Nat.le_refl _) _
  have HP0 : Hid (CellsAt (w.alloc (.cells #[.int .i64 1, .int .u64 rd, .string addr, .int .i64 len] 30)) w.heap.size #[.int .i64 1, .int .u64 rd, .string addr, .int .i64 len] 30) := CellsAt.new _ _ _
  have HC0 : Hid (CellsAt (w.alloc (.cells #[.int .i64 1, .int .u64 rd, .string addr, .int .i64 len] 30)) bw #[.pointer (some ⟨bt, 0, none⟩)] 51) := HW.out.c.alloc _
  go_enter Try.func8, Try.ntmps8
  go_wp2_with fail
  generalize w.alloc (.cells #[.int .i64 1, .int .u64 rd, .string addr, .int .i64 len] 30) = W at HB0 HP0 HC0 ⊢
  refine (wnone_any bw ⟨bt, 0, none⟩ _ HC0.out.c1).mono ?_
  rintro e w1 ⟨rfl, hw1⟩
  have hw1 := hw1.symm
  subst hw1
  obtain ⟨p0, p1, p2, p3, _⟩ := c4_at HP0.out
  clear w0
  have w0 := HC0.out.c1
  go_wp2_with fail
  refine wp_region_held_drew (S := fun w' => Below W.heap.size W w') (by kernel_rfl) (below_drewN (Below.refl _ _) 1) (fun hHeld => ?_)
  refine wpAnyH_take (i := 0) (oi := { dst := some 23, op := Op.move (Operand.tmp 0), type := 24, pos := "resolve.go:29", after := #[], guard := none }) (v := ?_) rfl (by kernel_rfl) (by kernel_rfl) (by kernel_rfl) (fun _ _ _ h => h) (Or.inl ⟨by rfl, ?_⟩) hHeld ?_
  rotate_left
  · intro w hSw
    clear hSw
    go_simp
    try with_reducible rfl
  try simp only [Act.put, List.setIfInBounds_toArray, List.set_cons_zero, List.set_cons_succ]
  refine wpAnyH_take (i := 1) (oi := { dst := some 24, op := Op.nilCheck (Operand.tmp 23), type := 0, pos := "resolve.go:29", after := #[{ on := 0, ground := Ground.data }], guard := none }) (v := ?_) rfl (by kernel_rfl) (by kernel_rfl) (by kernel_rfl) (fun _ _ _ h => h) (Or.inl ⟨by rfl, ?_⟩) hHeld ?_
  rotate_left
  · intro w hSw
    clear hSw
    go_simp
    try with_reducible rfl
  try simp only [Act.put, List.setIfInBounds_toArray, List.set_cons_zero, List.set_cons_succ]
  refine wpAnyH_take (i := 2) (oi := { dst := some 25, op := Op.fieldAddr 51 (Operand.tmp 24) 0, type := 0, pos := "resolve.go:29", after := #[{ on := 1, ground := Ground.data }], guard := none }) (v := ?_) rfl (by kernel_rfl) (by kernel_rfl) (by kernel_rfl) (fun _ _ _ h => h) (Or.inl ⟨by rfl, ?_⟩) hHeld ?_
  rotate_left
  · intro w hSw
    clear hSw
    go_simp
    try with_reducible rfl
  try simp only [Act.put, List.setIfInBounds_toArray, List.set_cons_zero, List.set_cons_succ]
  refine wpAnyH_take (i := 3) (oi := { dst := some 26, op := Op.load 48 (Operand.tmp 25), type := 48, pos := "resolve.go:29", after := #[{ on := 2, ground := Ground.data }], guard := none }) (v := ?_) rfl (by kernel_rfl) (by kernel_rfl) (by kernel_rfl) (fun _ _ _ h => h) (Or.inl ⟨by rfl, ?_⟩) hHeld ?_
  rotate_left
  · intro w hSw
    have w0' := CellsAt.c1 (HC0.out.below hSw HC0.out.lt)
    obtain ⟨p0, p1, p2, p3, _⟩ := c4_at (HP0.out.below hSw HP0.out.lt)
    go_simp
    try with_reducible rfl
  try simp only [Act.put, List.setIfInBounds_toArray, List.set_cons_zero, List.set_cons_succ]
  refine wpAnyH_take (i := 4) (oi := { dst := some 27, op := Op.load 30 (Operand.tmp 4), type := 30, pos := "resolve.go:29", after := #[], guard := none }) (v := ?_) rfl (by kernel_rfl) (by kernel_rfl) (by kernel_rfl) (fun _ _ _ h => h) (Or.inl ⟨by rfl, ?_⟩) hHeld ?_
  rotate_left
  · intro w hSw
    have w0' := CellsAt.c1 (HC0.out.below hSw HC0.out.lt)
    obtain ⟨p0, p1, p2, p3, _⟩ := c4_at (HP0.out.below hSw HP0.out.lt)
    go_simp
    try with_reducible rfl
  try simp only [Act.put, List.setIfInBounds_toArray, List.set_cons_zero, List.set_cons_succ]
  refine wpAnyH_take (i := 5) (oi := { dst := some 28, op := Op.move (Operand.tmp 2), type := 3, pos := "resolve.go:29", after := #[], guard := none }) (v := ?_) rfl (by kernel_rfl) (by kernel_rfl) (by kernel_rfl) (fun _ _ _ h => h) (Or.inl ⟨by rfl, ?_⟩) hHeld ?_
  rotate_left
  · intro w hSw
    clear hSw
    go_simp
    try with_reducible rfl
  try simp only [Act.put, List.setIfInBounds_toArray, List.set_cons_zero, List.set_cons_succ]
  refine wpAnyH_ready (rs := [6]) (by kernel_rfl) (by simp) ?_
  refine AllReadyH.cons (o := { dst := some 29, op := Op.call { callee := Callee.value (Operand.func 19), args := #[Operand.tmp 26, Operand.tmp 27, Operand.tmp 28], argTypes := #[48, 30, 3] }, type := 26, pos := "resolve.go:29", after := #[{ on := 3, ground := Ground.data }, { on := 4, ground := Ground.data }, { on := 5, ground := Ground.data }], guard := none }) rfl (fun K hK => ?_) AllReadyH.nil
  go_simp
  refine (tset_bad _ rd addr len cost ha HNO.out bt _ ((HT.out.below (HB0.out.trans ((below_drewN (Below.refl _ _) 1).mono HB0.out.size))).c3.1) (HT.out.below (HB0.out.trans ((below_drewN (Below.refl _ _) 1).mono HB0.out.size))).c.lt).mono ?_
  rintro e w9 ⟨rfl, hb9⟩
  go_wp2_with fail
  refine hK.out _ _ (hHeld.trans (hb9.mono hHeld.size)) (fun hHeld => ?_)
  clear hK K
  try simp only [Act.put, List.setIfInBounds_toArray, List.set_cons_zero, List.set_cons_succ]
  refine wpAnyH_take (i := 7) (oi := { dst := some 6, op := Op.assign (Operand.tmp 29), type := 26, pos := "resolve.go:29", after := #[{ on := 6, ground := Ground.data }, { on := 6, ground := Ground.chain }, { on := 0, ground := Ground.phase }, { on := 1, ground := Ground.phase }, { on := 2, ground := Ground.phase }, { on := 3, ground := Ground.phase }, { on := 4, ground := Ground.phase }, { on := 5, ground := Ground.phase }, { on := 6, ground := Ground.phase }], guard := none }) (v := ?_) rfl (by kernel_rfl) (by kernel_rfl) (by kernel_rfl) (fun _ _ _ h => h) (Or.inl ⟨by rfl, ?_⟩) hHeld ?_
  rotate_left
  · intro w hSw
    clear hSw
    go_simp
    try with_reducible rfl
  try simp only [Act.put, List.setIfInBounds_toArray, List.set_cons_zero, List.set_cons_succ]
  refine wpAnyH_done (by kernel_rfl) ?_ _
  have HB9 : Hid (Below w.heap.size w w9) := HB0.out.trans (hHeld.mono HB0.out.size)
  clear hHeld hb9
  go_wp2_with fail
  go_ret
  exact ⟨rfl, HB9.out⟩
set_option maxRecDepth 100000 in
set_option maxHeartbeats 4000000 in
theorem add_bad2 (rd : Int) (addr : ByteArray) (len cost : Int) (ha : addr.size ≤ 9223372036854775807) (bw bt base : Nat) (v : Value) (n : Int) (R : List Rt) (w : World) (h : WaysAt w bw bt base v n R) (h2 : ¬ cost < 0) (h3 : ¬ 1073741824 < cost) (hno : ¬ PrefOk 2 rd addr len) :
    Calls Try.prog 8 #[.pointer (some ⟨bw, 0, none⟩), .agg #[.int .i64 2, .int .u64 rd, .string addr, .int .i64 len], .int .i64 cost] w (fun e w' => e = .returned (.int .i64 2) ∧ Below w.heap.size w w') := by
  have HW := Lib.hid h
  have w0 := h.c.c1
  have hbw := h.c.lt
  have HT := Lib.hid h.t
  have e3 : decide (cost < 0) = false := decide_eq_false h2
  have e4 : decide (1073741824 < cost) = false := decide_eq_false h3
  have HNO := Lib.hid hno
  clear hno h2 h3
  clear h
  have HB0 : Hid (Below w.heap.size w (w.alloc (.cells #[.int .i64 2, .int .u64 rd, .string addr, .int .i64 len] 30))) := by
    show Below _ _ _
    exact (Below.refl _ _).alloc (Nat.le_refl _) _
  have HP0 : Hid (CellsAt (w.alloc (.cells #[.int .i64 2, .int .u64 rd, .string addr, .int .i64 len] 30)) w.heap.size #[.int .i64 2, .int .u64 rd, .string addr, .int .i64 len] 30) := CellsAt.new _ _ _
  have HC0 : Hid (CellsAt (w.alloc (.cells #[.int .i64 2, .int .u64 rd, .string addr, .int .i64 len] 30)) bw #[.pointer (some ⟨bt, 0, none⟩)] 51) := HW.out.c.alloc _
  go_enter Try.func8, Try.ntmps8
  go_wp2_with fail
  generalize w.alloc (.cells #[.int .i64 2, .int .u64 rd, .string addr, .int .i64 len] 30) = W at HB0 HP0 HC0 ⊢
  refine (wnone_any bw ⟨bt, 0, none⟩ _ HC0.out.c1).mono ?_
  rintro e w1 ⟨rfl, hw1⟩
  have hw1 := hw1.symm
  subst hw1
  obtain ⟨p0, p1, p2, p3, _⟩ := c4_at HP0.out
  clear w0
  have w0 := HC0.out.c1
  go_wp2_with fail
  refine wp_region_held_drew (S := fun w' => Below W.heap.size W w') (by kernel_rfl) (below_drewN (Below.refl _ _) 1) (fun hHeld => ?_)
  refine wpAnyH_take (i := 0) (oi := { dst := some 23, op := Op.move (Operand.tmp 0), type := 24, pos := "resolve.go:29", after := #[], guard := none }) (v := ?_) rfl (by kernel_rfl) (by kernel_rfl) (by kernel_rfl) (fun _ _ _ h => h) (Or.inl ⟨by rfl, ?_⟩) hHeld ?_
  rotate_left
  · intro w hSw
    clear hSw
    go_simp
    try with_reducible rfl
  try simp only [Act.put, List.setIfInBounds_toArray, List.set_cons_zero, List.set_cons_succ]
  refine wpAnyH_take (i := 1) (oi := { dst := some 24, op := Op.nilCheck (Operand.tmp 23), type := 0, pos := "resolve.go:29", after := #[{ on := 0, ground := Ground.data }], guard := none }) (v := ?_) rfl (by kernel_rfl) (by kernel_rfl) (by kernel_rfl) (fun _ _ _ h => h) (Or.inl ⟨by rfl, ?_⟩) hHeld ?_
  rotate_left
  · intro w hSw
    clear hSw
    go_simp
    try with_reducible rfl
  try simp only [Act.put, List.setIfInBounds_toArray, List.set_cons_zero, List.set_cons_succ]
  refine wpAnyH_take (i := 2) (oi := { dst := some 25, op := Op.fieldAddr 51 (Operand.tmp 24) 0, type := 0, pos := "resolve.go:29", after := #[{ on := 1, ground := Ground.data }], guard := none }) (v := ?_) rfl (by kernel_rfl) (by kernel_rfl) (by kernel_rfl) (fun _ _ _ h => h) (Or.inl ⟨by rfl, ?_⟩) hHeld ?_
  rotate_left
  · intro w hSw
    clear hSw
    go_simp
    try with_reducible rfl
  try simp only [Act.put, List.setIfInBounds_toArray, List.set_cons_zero, List.set_cons_succ]
  refine wpAnyH_take (i := 3) (oi := { dst := some 26, op := Op.load 48 (Operand.tmp 25), type := 48, pos := "resolve.go:29", after := #[{ on := 2, ground := Ground.data }], guard := none }) (v := ?_) rfl (by kernel_rfl) (by kernel_rfl) (by kernel_rfl) (fun _ _ _ h => h) (Or.inl ⟨by rfl, ?_⟩) hHeld ?_
  rotate_left
  · intro w hSw
    have w0' := CellsAt.c1 (HC0.out.below hSw HC0.out.lt)
    obtain ⟨p0, p1, p2, p3, _⟩ := c4_at (HP0.out.below hSw HP0.out.lt)
    go_simp
    try with_reducible rfl
  try simp only [Act.put, List.setIfInBounds_toArray, List.set_cons_zero, List.set_cons_succ]
  refine wpAnyH_take (i := 4) (oi := { dst := some 27, op := Op.load 30 (Operand.tmp 4), type := 30, pos := "resolve.go:29", after := #[], guard := none }) (v := ?_) rfl (by kernel_rfl) (by kernel_rfl) (by kernel_rfl) (fun _ _ _ h => h) (Or.inl ⟨by rfl, ?_⟩) hHeld ?_
  rotate_left
  · intro w hSw
    have w0' := CellsAt.c1 (HC0.out.below hSw HC0.out.lt)
    obtain ⟨p0, p1, p2, p3, _⟩ := c4_at (HP0.out.below hSw HP0.out.lt)
    go_simp
    try with_reducible rfl
  try simp only [Act.put, List.setIfInBounds_toArray, List.set_cons_zero, List.set_cons_succ]
  refine wpAnyH_take (i := 5) (oi := { dst := some 28, op := Op.move (Operand.tmp 2), type := 3, pos := "resolve.go:29", after := #[], guard := none }) (v := ?_) rfl (by kernel_rfl) (by kernel_rfl) (by kernel_rfl) (fun _ _ _ h => h) (Or.inl ⟨by rfl, ?_⟩) hHeld ?_
  rotate_left
  · intro w hSw
    clear hSw
    go_simp
    try with_reducible rfl
  try simp only [Act.put, List.setIfInBounds_toArray, List.set_cons_zero, List.set_cons_succ]
  refine wpAnyH_ready (rs := [6]) (by kernel_rfl) (by simp) ?_
  refine AllReadyH.cons (o := { dst := some 29, op := Op.call { callee := Callee.value (Operand.func 19), args := #[Operand.tmp 26, Operand.tmp 27, Operand.tmp 28], argTypes := #[48, 30, 3] }, type := 26, pos := "resolve.go:29", after := #[{ on := 3, ground := Ground.data }, { on := 4, ground := Ground.data }, { on := 5, ground := Ground.data }], guard := none }) rfl (fun K hK => ?_) AllReadyH.nil
  go_simp
  refine (tset_bad _ rd addr len cost ha HNO.out bt _ ((HT.out.below (HB0.out.trans ((below_drewN (Below.refl _ _) 1).mono HB0.out.size))).c3.1) (HT.out.below (HB0.out.trans ((below_drewN (Below.refl _ _) 1).mono HB0.out.size))).c.lt).mono ?_
  rintro e w9 ⟨rfl, hb9⟩
  go_wp2_with fail
  refine hK.out _ _ (hHeld.trans (hb9.mono hHeld.size)) (fun hHeld => ?_)
  clear hK K
  try simp only [Act.put, List.setIfInBounds_toArray, List.set_cons_zero, List.set_cons_succ]
  refine wpAnyH_take (i := 7) (oi := { dst := some 6, op := Op.assign (Operand.tmp 29), type := 26, pos := "resolve.go:29", after := #[{ on := 6, ground := Ground.data }, { on := 6, ground := Ground.chain }, { on := 0, ground := Ground.phase }, { on := 1, ground := Ground.phase }, { on := 2, ground := Ground.phase }, { on := 3, ground := Ground.phase }, { on := 4, ground := Ground.phase }, { on := 5, ground := Ground.phase }, { on := 6, ground := Ground.phase }], guard := none }) (v := ?_) rfl (by kernel_rfl) (by kernel_rfl) (by kernel_rfl) (fun _ _ _ h => h) (Or.inl ⟨by rfl, ?_⟩) hHeld ?_
  rotate_left
  · intro w hSw
    clear hSw
    go_simp
    try with_reducible rfl
  try simp only [Act.put, List.setIfInBounds_toArray, List.set_cons_zero, List.set_cons_succ]
  refine wpAnyH_done (by kernel_rfl) ?_ _
  have HB9 : Hid (Below w.heap.size w w9) := HB0.out.trans (hHeld.mono HB0.out.size)
  clear hHeld hb9
  go_wp2_with fail
  go_ret
  exact ⟨rfl, HB9.out⟩
theorem PrefOk.rd0 {fam rd : Int} {addr : ByteArray} {len : Int} (h : PrefOk fam rd addr len) (hf : fam = 1 ∨ fam = 2) : rd = 0 := by
  rcases h.2.2.2.2.1 with h | h
  · exact h
  · omega
set_option maxRecDepth 100000 in
set_option maxHeartbeats 4000000 in
theorem add_good1 (rd : Int) (addr : ByteArray) (k : Nat) (cost : Int) (ha : addr.size ≤ 9223372036854775807) (bw bt base : Nat) (v : Value) (n : Int) (R : List Rt) (w : World) (h : WaysAt w bw bt base v n R) (h2 : ¬ cost < 0) (h3 : ¬ 1073741824 < cost) (hok : PrefOk 1 rd addr (k : Nat)) :
    Calls Try.prog 8 #[.pointer (some ⟨bw, 0, none⟩), .agg #[.int .i64 1, .int .u64 rd, .string addr, .int .i64 (k : Nat)], .int .i64 cost] w (fun e w' => e = .returned (.int .i64 0) ∧ ∃ v' n' R', Laid w bt base v R w' v' n' R' ∧ ∀ q x, RMem R' q x ↔ setM (RMem R) ⟨1, rd, addr, k⟩ cost q x) := by
  have HW := Lib.hid h
  have w0 := h.c.c1
  have hbw := h.c.lt
  have HT := Lib.hid h.t
  have e3 : decide (cost < 0) = false := decide_eq_false h2
  have e4 : decide (1073741824 < cost) = false := decide_eq_false h3
  have hrd := hok.rd0 (by simp)
  have HSET := Lib.hid (fun w1 h hb => tset_any ⟨1, rd, addr, k⟩ hok ⟨by simp, hrd⟩ cost bt base v n R w1 h hb)
  clear hok h2 h3 hrd
  unfold Tp.v at HSET
  dsimp only at HSET
  clear h
  have HB0 : Hid (Below w.heap.size w (w.alloc (.cells #[.int .i64 1, .int .u64 rd, .string addr, .int .i64 (k : Nat)] 30))) := by
    show Below _ _ _
    exact (Below.refl _ _).alloc (Nat.le_refl _) _
  have HP0 : Hid (CellsAt (w.alloc (.cells #[.int .i64 1, .int .u64 rd, .string addr, .int .i64 (k : Nat)] 30)) w.heap.size #[.int .i64 1, .int .u64 rd, .string addr, .int .i64 (k : Nat)] 30) := CellsAt.new _ _ _
  have HC0 : Hid (CellsAt (w.alloc (.cells #[.int .i64 1, .int .u64 rd, .string addr, .int .i64 (k : Nat)] 30)) bw #[.pointer (some ⟨bt, 0, none⟩)] 51) := HW.out.c.alloc _
  go_enter Try.func8, Try.ntmps8
  go_wp2_with fail
  generalize w.alloc (.cells #[.int .i64 1, .int .u64 rd, .string addr, .int .i64 (k : Nat)] 30) = W at HB0 HP0 HC0 ⊢
  refine (wnone_any bw ⟨bt, 0, none⟩ _ HC0.out.c1).mono ?_
  rintro e w1 ⟨rfl, hw1⟩
  have hw1 := hw1.symm
  subst hw1
  obtain ⟨p0, p1, p2, p3, _⟩ := c4_at HP0.out
  clear w0
  have w0 := HC0.out.c1
  go_wp2_with fail
  refine wp_region_held_drew (S := fun w' => GrownX (trX bt v R) W w') (by kernel_rfl) (GrownX.of_below (below_drewN (Below.refl _ _) 1)) (fun hHeld => ?_)
  refine wpAnyH_take (i := 0) (oi := { dst := some 23, op := Op.move (Operand.tmp 0), type := 24, pos := "resolve.go:29", after := #[], guard := none }) (v := ?_) rfl (by kernel_rfl) (by kernel_rfl) (by kernel_rfl) (fun _ _ _ h => h) (Or.inl ⟨by rfl, ?_⟩) hHeld ?_
  rotate_left
  · intro w hSw
    clear hSw
    go_simp
    try with_reducible rfl
  try simp only [Act.put, List.setIfInBounds_toArray, List.set_cons_zero, List.set_cons_succ]
  refine wpAnyH_take (i := 1) (oi := { dst := some 24, op := Op.nilCheck (Operand.tmp 23), type := 0, pos := "resolve.go:29", after := #[{ on := 0, ground := Ground.data }], guard := none }) (v := ?_) rfl (by kernel_rfl) (by kernel_rfl) (by kernel_rfl) (fun _ _ _ h => h) (Or.inl ⟨by rfl, ?_⟩) hHeld ?_
  rotate_left
  · intro w hSw
    clear hSw
    go_simp
    try with_reducible rfl
  try simp only [Act.put, List.setIfInBounds_toArray, List.set_cons_zero, List.set_cons_succ]
  refine wpAnyH_take (i := 2) (oi := { dst := some 25, op := Op.fieldAddr 51 (Operand.tmp 24) 0, type := 0, pos := "resolve.go:29", after := #[{ on := 1, ground := Ground.data }], guard := none }) (v := ?_) rfl (by kernel_rfl) (by kernel_rfl) (by kernel_rfl) (fun _ _ _ h => h) (Or.inl ⟨by rfl, ?_⟩) hHeld ?_
  rotate_left
  · intro w hSw
    clear hSw
    go_simp
    try with_reducible rfl
  try simp only [Act.put, List.setIfInBounds_toArray, List.set_cons_zero, List.set_cons_succ]
  refine wpAnyH_take (i := 3) (oi := { dst := some 26, op := Op.load 48 (Operand.tmp 25), type := 48, pos := "resolve.go:29", after := #[{ on := 2, ground := Ground.data }], guard := none }) (v := ?_) rfl (by kernel_rfl) (by kernel_rfl) (by kernel_rfl) (fun _ _ _ h => h) (Or.inl ⟨by rfl, ?_⟩) hHeld ?_
  rotate_left
  · intro w hSw
    have w0' := CellsAt.c1 (HC0.out.grownX hSw HW.out.o)
    obtain ⟨p0, p1, p2, p3, _⟩ := c4_at (HP0.out.grownX hSw (fun hx => Nat.lt_irrefl _ (HT.out.lt _ hx)))
    go_simp
    try with_reducible rfl
  try simp only [Act.put, List.setIfInBounds_toArray, List.set_cons_zero, List.set_cons_succ]
  refine wpAnyH_take (i := 4) (oi := { dst := some 27, op := Op.load 30 (Operand.tmp 4), type := 30, pos := "resolve.go:29", after := #[], guard := none }) (v := ?_) rfl (by kernel_rfl) (by kernel_rfl) (by kernel_rfl) (fun _ _ _ h => h) (Or.inl ⟨by rfl, ?_⟩) hHeld ?_
  rotate_left
  · intro w hSw
    have w0' := CellsAt.c1 (HC0.out.grownX hSw HW.out.o)
    obtain ⟨p0, p1, p2, p3, _⟩ := c4_at (HP0.out.grownX hSw (fun hx => Nat.lt_irrefl _ (HT.out.lt _ hx)))
    go_simp
    try with_reducible rfl
  try simp only [Act.put, List.setIfInBounds_toArray, List.set_cons_zero, List.set_cons_succ]
  refine wpAnyH_take (i := 5) (oi := { dst := some 28, op := Op.move (Operand.tmp 2), type := 3, pos := "resolve.go:29", after := #[], guard := none }) (v := ?_) rfl (by kernel_rfl) (by kernel_rfl) (by kernel_rfl) (fun _ _ _ h => h) (Or.inl ⟨by rfl, ?_⟩) hHeld ?_
  rotate_left
  · intro w hSw
    clear hSw
    go_simp
    try with_reducible rfl
  try simp only [Act.put, List.setIfInBounds_toArray, List.set_cons_zero, List.set_cons_succ]
  refine wpAnyH_ready (rs := [6]) (by kernel_rfl) (by simp) ?_
  refine AllReadyH.cons (o := { dst := some 29, op := Op.call { callee := Callee.value (Operand.func 19), args := #[Operand.tmp 26, Operand.tmp 27, Operand.tmp 28], argTypes := #[48, 30, 3] }, type := 26, pos := "resolve.go:29", after := #[{ on := 3, ground := Ground.data }, { on := 4, ground := Ground.data }, { on := 5, ground := Ground.data }], guard := none }) rfl (fun K hK => ?_) AllReadyH.nil
  go_simp
  refine (HSET.out _ (HT.out.below (HB0.out.trans ((below_drewN (Below.refl _ _) 1).mono HB0.out.size))) (Nat.le_trans HW.out.b (Nat.le_trans HB0.out.size (below_drewN (Below.refl W.heap.size W) 1).size))).mono ?_
  rintro e w9 ⟨v', n', R', rfl, hl9, hm9⟩
  go_wp2_with fail
  refine hK.out _ _ (hHeld.trans hl9.g) (fun hHeld => ?_)
  clear hK K
  try simp only [Act.put, List.setIfInBounds_toArray, List.set_cons_zero, List.set_cons_succ]
  refine wpAnyH_take (i := 7) (oi := { dst := some 6, op := Op.assign (Operand.tmp 29), type := 26, pos := "resolve.go:29", after := #[{ on := 6, ground := Ground.data }, { on := 6, ground := Ground.chain }, { on := 0, ground := Ground.phase }, { on := 1, ground := Ground.phase }, { on := 2, ground := Ground.phase }, { on := 3, ground := Ground.phase }, { on := 4, ground := Ground.phase }, { on := 5, ground := Ground.phase }, { on := 6, ground := Ground.phase }], guard := none }) (v := ?_) rfl (by kernel_rfl) (by kernel_rfl) (by kernel_rfl) (fun _ _ _ h => h) (Or.inl ⟨by rfl, ?_⟩) hHeld ?_
  rotate_left
  · intro w hSw
    clear hSw
    go_simp
    try with_reducible rfl
  try simp only [Act.put, List.setIfInBounds_toArray, List.set_cons_zero, List.set_cons_succ]
  refine wpAnyH_done (by kernel_rfl) ?_ _
  clear hHeld
  have HL9 := Lib.hid (hl9.from_ (HB0.out.trans ((below_drewN (Below.refl _ _) 1).mono HB0.out.size)))
  have HM9 := Lib.hid hm9
  clear hl9 hm9
  go_wp2_with fail
  go_ret
  exact ⟨rfl, v', n', R', HL9.out, HM9.out⟩
set_option maxRecDepth 100000 in
set_option maxHeartbeats 4000000 in
theorem add_good2 (rd : Int) (addr : ByteArray) (k : Nat) (cost : Int) (ha : addr.size ≤ 9223372036854775807) (bw bt base : Nat) (v : Value) (n : Int) (R : List Rt) (w : World) (h : WaysAt w bw bt base v n R) (h2 : ¬ cost < 0) (h3 : ¬ 1073741824 < cost) (hok : PrefOk 2 rd addr (k : Nat)) :
    Calls Try.prog 8 #[.pointer (some ⟨bw, 0, none⟩), .agg #[.int .i64 2, .int .u64 rd, .string addr, .int .i64 (k : Nat)], .int .i64 cost] w (fun e w' => e = .returned (.int .i64 0) ∧ ∃ v' n' R', Laid w bt base v R w' v' n' R' ∧ ∀ q x, RMem R' q x ↔ setM (RMem R) ⟨2, rd, addr, k⟩ cost q x) := by
  have HW := Lib.hid h
  have w0 := h.c.c1
  have hbw := h.c.lt
  have HT := Lib.hid h.t
  have e3 : decide (cost < 0) = false := decide_eq_false h2
  have e4 : decide (1073741824 < cost) = false := decide_eq_false h3
  have hrd := hok.rd0 (by simp)
  have HSET := Lib.hid (fun w1 h hb => tset_any ⟨2, rd, addr, k⟩ hok ⟨by simp, hrd⟩ cost bt base v n R w1 h hb)
  clear hok h2 h3 hrd
  unfold Tp.v at HSET
  dsimp only at HSET
  clear h
  have HB0 : Hid (Below w.heap.size w (w.alloc (.cells #[.int .i64 2, .int .u64 rd, .string addr, .int .i64 (k : Nat)] 30))) := by
    show Below _ _ _
    exact (Below.refl _ _).alloc (Nat.le_refl _) _
  have HP0 : Hid (CellsAt (w.alloc (.cells #[.int .i64 2, .int .u64 rd, .string addr, .int .i64 (k : Nat)] 30)) w.heap.size #[.int .i64 2, .int .u64 rd, .string addr, .int .i64 (k : Nat)] 30) := CellsAt.new _ _ _
  have HC0 : Hid (CellsAt (w.alloc (.cells #[.int .i64 2, .int .u64 rd, .string addr, .int .i64 (k : Nat)] 30)) bw #[.pointer (some ⟨bt, 0, none⟩)] 51) := HW.out.c.alloc _
  go_enter Try.func8, Try.ntmps8
  go_wp2_with fail
  generalize w.alloc (.cells #[.int .i64 2, .int .u64 rd, .string addr, .int .i64 (k : Nat)] 30) = W at HB0 HP0 HC0 ⊢
  refine (wnone_any bw ⟨bt, 0, none⟩ _ HC0.out.c1).mono ?_
  rintro e w1 ⟨rfl, hw1⟩
  have hw1 := hw1.symm
  subst hw1
  obtain ⟨p0, p1, p2, p3, _⟩ := c4_at HP0.out
  clear w0
  have w0 := HC0.out.c1
  go_wp2_with fail
  refine wp_region_held_drew (S := fun w' => GrownX (trX bt v R) W w') (by kernel_rfl) (GrownX.of_below (below_drewN (Below.refl _ _) 1)) (fun hHeld => ?_)
  refine wpAnyH_take (i := 0) (oi := { dst := some 23, op := Op.move (Operand.tmp 0), type := 24, pos := "resolve.go:29", after := #[], guard := none }) (v := ?_) rfl (by kernel_rfl) (by kernel_rfl) (by kernel_rfl) (fun _ _ _ h => h) (Or.inl ⟨by rfl, ?_⟩) hHeld ?_
  rotate_left
  · intro w hSw
    clear hSw
    go_simp
    try with_reducible rfl
  try simp only [Act.put, List.setIfInBounds_toArray, List.set_cons_zero, List.set_cons_succ]
  refine wpAnyH_take (i := 1) (oi := { dst := some 24, op := Op.nilCheck (Operand.tmp 23), type := 0, pos := "resolve.go:29", after := #[{ on := 0, ground := Ground.data }], guard := none }) (v := ?_) rfl (by kernel_rfl) (by kernel_rfl) (by kernel_rfl) (fun _ _ _ h => h) (Or.inl ⟨by rfl, ?_⟩) hHeld ?_
  rotate_left
  · intro w hSw
    clear hSw
    go_simp
    try with_reducible rfl
  try simp only [Act.put, List.setIfInBounds_toArray, List.set_cons_zero, List.set_cons_succ]
  refine wpAnyH_take (i := 2) (oi := { dst := some 25, op := Op.fieldAddr 51 (Operand.tmp 24) 0, type := 0, pos := "resolve.go:29", after := #[{ on := 1, ground := Ground.data }], guard := none }) (v := ?_) rfl (by kernel_rfl) (by kernel_rfl) (by kernel_rfl) (fun _ _ _ h => h) (Or.inl ⟨by rfl, ?_⟩) hHeld ?_
  rotate_left
  · intro w hSw
    clear hSw
    go_simp
    try with_reducible rfl
  try simp only [Act.put, List.setIfInBounds_toArray, List.set_cons_zero, List.set_cons_succ]
  refine wpAnyH_take (i := 3) (oi := { dst := some 26, op := Op.load 48 (Operand.tmp 25), type := 48, pos := "resolve.go:29", after := #[{ on := 2, ground := Ground.data }], guard := none }) (v := ?_) rfl (by kernel_rfl) (by kernel_rfl) (by kernel_rfl) (fun _ _ _ h => h) (Or.inl ⟨by rfl, ?_⟩) hHeld ?_
  rotate_left
  · intro w hSw
    have w0' := CellsAt.c1 (HC0.out.grownX hSw HW.out.o)
    obtain ⟨p0, p1, p2, p3, _⟩ := c4_at (HP0.out.grownX hSw (fun hx => Nat.lt_irrefl _ (HT.out.lt _ hx)))
    go_simp
    try with_reducible rfl
  try simp only [Act.put, List.setIfInBounds_toArray, List.set_cons_zero, List.set_cons_succ]
  refine wpAnyH_take (i := 4) (oi := { dst := some 27, op := Op.load 30 (Operand.tmp 4), type := 30, pos := "resolve.go:29", after := #[], guard := none }) (v := ?_) rfl (by kernel_rfl) (by kernel_rfl) (by kernel_rfl) (fun _ _ _ h => h) (Or.inl ⟨by rfl, ?_⟩) hHeld ?_
  rotate_left
  · intro w hSw
    have w0' := CellsAt.c1 (HC0.out.grownX hSw HW.out.o)
    obtain ⟨p0, p1, p2, p3, _⟩ := c4_at (HP0.out.grownX hSw (fun hx => Nat.lt_irrefl _ (HT.out.lt _ hx)))
    go_simp
    try with_reducible rfl
  try simp only [Act.put, List.setIfInBounds_toArray, List.set_cons_zero, List.set_cons_succ]
  refine wpAnyH_take (i := 5) (oi := { dst := some 28, op := Op.move (Operand.tmp 2), type := 3, pos := "resolve.go:29", after := #[], guard := none }) (v := ?_) rfl (by kernel_rfl) (by kernel_rfl) (by kernel_rfl) (fun _ _ _ h => h) (Or.inl ⟨by rfl, ?_⟩) hHeld ?_
  rotate_left
  · intro w hSw
    clear hSw
    go_simp
    try with_reducible rfl
  try simp only [Act.put, List.setIfInBounds_toArray, List.set_cons_zero, List.set_cons_succ]
  refine wpAnyH_ready (rs := [6]) (by kernel_rfl) (by simp) ?_
  refine AllReadyH.cons (o := { dst := some 29, op := Op.call { callee := Callee.value (Operand.func 19), args := #[Operand.tmp 26, Operand.tmp 27, Operand.tmp 28], argTypes := #[48, 30, 3] }, type := 26, pos := "resolve.go:29", after := #[{ on := 3, ground := Ground.data }, { on := 4, ground := Ground.data }, { on := 5, ground := Ground.data }], guard := none }) rfl (fun K hK => ?_) AllReadyH.nil
  go_simp
  refine (HSET.out _ (HT.out.below (HB0.out.trans ((below_drewN (Below.refl _ _) 1).mono HB0.out.size))) (Nat.le_trans HW.out.b (Nat.le_trans HB0.out.size (below_drewN (Below.refl W.heap.size W) 1).size))).mono ?_
  rintro e w9 ⟨v', n', R', rfl, hl9, hm9⟩
  go_wp2_with fail
  refine hK.out _ _ (hHeld.trans hl9.g) (fun hHeld => ?_)
  clear hK K
  try simp only [Act.put, List.setIfInBounds_toArray, List.set_cons_zero, List.set_cons_succ]
  refine wpAnyH_take (i := 7) (oi := { dst := some 6, op := Op.assign (Operand.tmp 29), type := 26, pos := "resolve.go:29", after := #[{ on := 6, ground := Ground.data }, { on := 6, ground := Ground.chain }, { on := 0, ground := Ground.phase }, { on := 1, ground := Ground.phase }, { on := 2, ground := Ground.phase }, { on := 3, ground := Ground.phase }, { on := 4, ground := Ground.phase }, { on := 5, ground := Ground.phase }, { on := 6, ground := Ground.phase }], guard := none }) (v := ?_) rfl (by kernel_rfl) (by kernel_rfl) (by kernel_rfl) (fun _ _ _ h => h) (Or.inl ⟨by rfl, ?_⟩) hHeld ?_
  rotate_left
  · intro w hSw
    clear hSw
    go_simp
    try with_reducible rfl
  try simp only [Act.put, List.setIfInBounds_toArray, List.set_cons_zero, List.set_cons_succ]
  refine wpAnyH_done (by kernel_rfl) ?_ _
  clear hHeld
  have HL9 := Lib.hid (hl9.from_ (HB0.out.trans ((below_drewN (Below.refl _ _) 1).mono HB0.out.size)))
  have HM9 := Lib.hid hm9
  clear hl9 hm9
  go_wp2_with fail
  go_ret
  exact ⟨rfl, v', n', R', HL9.out, HM9.out⟩
theorem add_any (fam rd : Int) (addr : ByteArray) (len cost : Int) (ha : addr.size ≤ 9223372036854775807) (bw : Nat) (M : Tp → Int → Prop) (X : Nat → Prop) (w : World) (h : WaysIs w bw M X) :
    Calls Try.prog 8 #[.pointer (some ⟨bw, 0, none⟩), .agg #[.int .i64 fam, .int .u64 rd, .string addr, .int .i64 len], .int .i64 cost] w (AddPost w bw M X fam rd addr len cost) := by
  obtain ⟨bt, base, v, n, R, hw, hm, hx⟩ := h
  have no : ¬ wOk fam rd addr len cost → ∀ e w', (e = .returned (.int .i64 2) ∧ Below w.heap.size w w') → AddPost w bw M X fam rd addr len cost e w' := fun hn e w' k => Or.inl ⟨hn, k.1, k.2⟩
  by_cases h1 : fam = 1 ∨ fam = 2
  · by_cases h2 : cost < 0
    · have hn : ¬ wOk fam rd addr len cost := fun k => by have := k.2.2.1; omega
      rcases h1 with rfl | rfl
      · exact (add_neg1 rd addr len cost ha bw bt base v n R w hw h2).mono (no hn)
      · exact (add_neg2 rd addr len cost ha bw bt base v n R w hw h2).mono (no hn)
    · by_cases h3 : 1073741824 < cost
      · have hn : ¬ wOk fam rd addr len cost := fun k => by have := k.2.2.2; omega
        rcases h1 with rfl | rfl
        · exact (add_dear1 rd addr len cost ha bw bt base v n R w hw h2 h3).mono (no hn)
        · exact (add_dear2 rd addr len cost ha bw bt base v n R w hw h2 h3).mono (no hn)
      · by_cases h4 : PrefOk fam rd addr len
        · have hok : wOk fam rd addr len cost := ⟨h4, h1, by omega, by omega⟩
          have fin : ∀ e w', (e = .returned (.int .i64 0) ∧ ∃ v' n' R', Laid w bt base v R w' v' n' R' ∧ ∀ q x, RMem R' q x ↔ setM (RMem R) ⟨fam, rd, addr, len.toNat⟩ cost q x) → AddPost w bw M X fam rd addr len cost e w' := by
            rintro e w' ⟨he, v', n', R', hl, hm'⟩
            refine Or.inr ⟨hok, he, fun x => x = bw ∨ trX bt v' R' x, ⟨bt, base, v', n', R', ⟨hw.c.grownX hl.g hw.o, hl.t, Nat.le_trans hw.b hl.g.size, fun hx' => ?_⟩, fun q x => (hm' q x).trans ?_, fun x => Iff.rfl⟩, hl.g.mono fun x k => (hx x).2 (Or.inr k), fun x k => ?_⟩
            · rcases hl.s _ hx' with k | k
              · exact hw.o k
              · have := hw.c.lt
                omega
            · unfold setM
              rw [hm q x]
            · rcases k with k | k
              · exact Or.inl ((hx x).2 (Or.inl k))
              · exact (hl.s x k).imp (fun j => (hx x).2 (Or.inr j)) id
          obtain ⟨k, rfl⟩ : ∃ k : Nat, len = (k : Int) := ⟨len.toNat, by have := h4.2.2.1; omega⟩
          rcases h1 with rfl | rfl
          · exact (add_good1 rd addr k cost ha bw bt base v n R w hw h2 h3 h4).mono fin
          · exact (add_good2 rd addr k cost ha bw bt base v n R w hw h2 h3 h4).mono fin
        · have hn : ¬ wOk fam rd addr len cost := fun k => h4 k.1
          rcases h1 with rfl | rfl
          · exact (add_bad1 rd addr len cost ha bw bt base v n R w hw h2 h3 h4).mono (no hn)
          · exact (add_bad2 rd addr len cost ha bw bt base v n R w hw h2 h3 h4).mono (no hn)
  · exact (add_fam fam rd addr len cost ha bw bt base v n R w hw h1).mono (no fun k => h1 k.2.1)
end Go.Proofs.Ythnjepehiddogaa
