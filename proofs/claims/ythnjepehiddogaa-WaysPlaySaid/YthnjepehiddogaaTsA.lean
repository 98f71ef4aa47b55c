/-
  Contract of heraldref01.Covers at prefixes that may be. Conditions: sizes.
-/
import Derived.Test.YthnjepehiddogaaTrX
set_option linter.unusedVariables false
set_option linter.unusedSimpArgs false
namespace Go.Proofs.Ythnjepehiddogaa
open Go.RowKit Go.MapKept

abbrev vO0 : Oper := { dst := some 41, op := Op.fieldAddr 30 (Operand.tmp 2) 2, type := 0, pos := "ref.go:92", after := #[], guard := none }
abbrev vO1 : Oper := { dst := some 42, op := Op.load 9 (Operand.tmp 41), type := 9, pos := "ref.go:92", after := #[{ on := 0, ground := Ground.data }], guard := none }
abbrev vO2 : Oper := { dst := some 43, op := Op.move (Operand.tmp 5), type := 3, pos := "ref.go:92", after := #[], guard := none }
abbrev vO3 : Oper := { dst := some 44, op := Op.call { callee := Callee.value (Operand.func 41), args := #[Operand.tmp 42, Operand.tmp 43], argTypes := #[9, 3] }, type := 3, pos := "ref.go:92", after := #[{ on := 1, ground := Ground.data }, { on := 2, ground := Ground.data }], guard := none }
abbrev vO4 : Oper := { dst := some 45, op := Op.fieldAddr 30 (Operand.tmp 3) 2, type := 0, pos := "ref.go:92", after := #[], guard := none }
abbrev vO5 : Oper := { dst := some 46, op := Op.load 9 (Operand.tmp 45), type := 9, pos := "ref.go:92", after := #[{ on := 4, ground := Ground.data }], guard := none }
abbrev vO6 : Oper := { dst := some 47, op := Op.move (Operand.tmp 5), type := 3, pos := "ref.go:92", after := #[], guard := none }
abbrev vO7 : Oper := { dst := some 48, op := Op.call { callee := Callee.value (Operand.func 41), args := #[Operand.tmp 46, Operand.tmp 47], argTypes := #[9, 3] }, type := 3, pos := "ref.go:92", after := #[{ on := 5, ground := Ground.data }, { on := 6, ground := Ground.data }, { on := 3, ground := Ground.chain }], guard := none }
abbrev vO8 : Oper := { dst := some 49, op := Op.binOp BinOp.neq 3 (Operand.tmp 44) (Operand.tmp 48) 3, type := 4, pos := "ref.go:92", after := #[{ on := 3, ground := Ground.data }, { on := 7, ground := Ground.data }], guard := none }
def RcovIs (a b : Tp) (r : Bool) : Prop := r = true ↔ a.fam = b.fam ∧ a.rd = b.rd ∧ cov a b
def RcovPost (w : World) (a b : Tp) (e : Ending) (w' : World) : Prop := Below w.heap.size w w' ∧ ∃ r : Bool, e = .returned (.bool r) ∧ RcovIs a b r
set_option maxRecDepth 100000 in
set_option maxHeartbeats 4000000 in
theorem rcov_fam (a b : Tp) (ha : a.Ok) (hb : b.Ok) (hf : ¬ a.fam = b.fam) (w : World) : Calls Try.prog 29 #[a.v, b.v] w (RcovPost w a b) := by
  have hsa := ha.small
  have hsb := hb.small
  have hla := ha.le
  have hlb := hb.le
  have HMA := Lib.hid (fun w => rmay_any a.fam a.rd a.addr (a.len : Nat) w (by omega))
  have HMB := Lib.hid (fun w => rmay_any b.fam b.rd b.addr (b.len : Nat) w (by omega))
  rw [show decide (PrefOk a.fam a.rd a.addr (a.len : Nat)) = true from decide_eq_true ha] at HMA
  rw [show decide (PrefOk b.fam b.rd b.addr (b.len : Nat)) = true from decide_eq_true hb] at HMB
  have HNO : Hid (RcovIs a b false) := Iff.intro (fun h => (by cases h)) (fun h => absurd h.1 hf)
  have e1 : (a.fam == b.fam) = false := by rw [beq_eq_false_iff_ne]; exact hf
  have e2 : (a.fam != b.fam) = true := by rw [bne, e1]; rfl
  clear ha hb
  unfold Tp.v
  obtain ⟨W, hW⟩ : ∃ W, W = (w.alloc (.cells #[.int .i64 a.fam, .int .u64 a.rd, .string a.addr, .int .i64 (a.len : Nat)] 30)).alloc (.cells #[.int .i64 b.fam, .int .u64 b.rd, .string b.addr, .int .i64 (b.len : Nat)] 30) := ⟨_, rfl⟩
  have HB : Hid (Below w.heap.size w W) := by
    rw [hW]
    show Below _ _ _
    exact ((Below.refl _ _).alloc (Nat.le_refl _) _).alloc (by simp) _
  have H0 : Hid (CellsAt W w.heap.size #[.int .i64 a.fam, .int .u64 a.rd, .string a.addr, .int .i64 (a.len : Nat)] 30) := by
    rw [hW]
    exact (CellsAt.new w _ _).alloc _
  have H1 : Hid (CellsAt W (w.heap.size + 1) #[.int .i64 b.fam, .int .u64 b.rd, .string b.addr, .int .i64 (b.len : Nat)] 30) := by
    rw [hW]
    exact CellsAt.new' _ _ (by simp) _ _
  obtain ⟨a0, a1, a2, a3, _⟩ := c4_at H0.out
  go_enter Try.func29, Try.ntmps29
  go_wp2_with fail
  rw [← hW]
  clear hW
  go_wp2_with fail
  refine (HMA.out _).mono ?_
  rintro e w1 ⟨rfl, hb1⟩
  have HB1 : Hid (Below w.heap.size w w1) := HB.out.trans (hb1.mono HB.out.size)
  have G0 : Hid (CellsAt w1 w.heap.size #[.int .i64 a.fam, .int .u64 a.rd, .string a.addr, .int .i64 (a.len : Nat)] 30) := H0.out.below hb1 H0.out.lt
  have G1 : Hid (CellsAt w1 (w.heap.size + 1) #[.int .i64 b.fam, .int .u64 b.rd, .string b.addr, .int .i64 (b.len : Nat)] 30) := H1.out.below hb1 H1.out.lt
  clear hb1 H0 H1 HB a0 a1 a2 a3
  obtain ⟨b0, b1, b2, b3, _⟩ := c4_at G1.out
  go_wp2_with fail
  refine (HMB.out _).mono ?_
  rintro e w2 ⟨rfl, hb2⟩
  have HB2 : Hid (Below w.heap.size w w2) := HB1.out.trans (hb2.mono HB1.out.size)
  have K0 : Hid (CellsAt w2 w.heap.size #[.int .i64 a.fam, .int .u64 a.rd, .string a.addr, .int .i64 (a.len : Nat)] 30) := G0.out.below hb2 G0.out.lt
  have K1 : Hid (CellsAt w2 (w.heap.size + 1) #[.int .i64 b.fam, .int .u64 b.rd, .string b.addr, .int .i64 (b.len : Nat)] 30) := G1.out.below hb2 G1.out.lt
  clear hb2 G0 G1 HB1 b0 b1 b2 b3
  obtain ⟨a0, a1, a2, a3, _⟩ := c4_at K0.out
  obtain ⟨b0, b1, b2, b3, _⟩ := c4_at K1.out
  go_wp2_with fail
  go_ret
  exact ⟨HB2.out, false, rfl, HNO.out⟩
set_option maxRecDepth 100000 in
set_option maxHeartbeats 4000000 in
theorem rcov_rd (a b : Tp) (ha : a.Ok) (hb : b.Ok) (hf : a.fam = b.fam) (hr : ¬ a.rd = b.rd) (w : World) : Calls Try.prog 29 #[a.v, b.v] w (RcovPost w a b) := by
  have hsa := ha.small
  have hsb := hb.small
  have hla := ha.le
  have hlb := hb.le
  have HMA := Lib.hid (fun w => rmay_any a.fam a.rd a.addr (a.len : Nat) w (by omega))
  have HMB := Lib.hid (fun w => rmay_any b.fam b.rd b.addr (b.len : Nat) w (by omega))
  rw [show decide (PrefOk a.fam a.rd a.addr (a.len : Nat)) = true from decide_eq_true ha] at HMA
  rw [show decide (PrefOk b.fam b.rd b.addr (b.len : Nat)) = true from decide_eq_true hb] at HMB
  have HNO : Hid (RcovIs a b false) := Iff.intro (fun h => (by cases h)) (fun h => absurd h.2.1 hr)
  have e1 : (a.fam == b.fam) = true := by rw [beq_iff_eq]; exact hf
  have e2 : (a.fam != b.fam) = false := by rw [bne, e1]; rfl
  have e3 : (a.rd == b.rd) = false := by rw [beq_eq_false_iff_ne]; exact hr
  have e4 : (a.rd != b.rd) = true := by rw [bne, e3]; rfl
  clear hf
  clear ha hb
  unfold Tp.v
  obtain ⟨W, hW⟩ : ∃ W, W = (w.alloc (.cells #[.int .i64 a.fam, .int .u64 a.rd, .string a.addr, .int .i64 (a.len : Nat)] 30)).alloc (.cells #[.int .i64 b.fam, .int .u64 b.rd, .string b.addr, .int .i64 (b.len : Nat)] 30) := ⟨_, rfl⟩
  have HB : Hid (Below w.heap.size w W) := by
    rw [hW]
    show Below _ _ _
    exact ((Below.refl _ _).alloc (Nat.le_refl _) _).alloc (by simp) _
  have H0 : Hid (CellsAt W w.heap.size #[.int .i64 a.fam, .int .u64 a.rd, .string a.addr, .int .i64 (a.len : Nat)] 30) := by
    rw [hW]
    exact (CellsAt.new w _ _).alloc _
  have H1 : Hid (CellsAt W (w.heap.size + 1) #[.int .i64 b.fam, .int .u64 b.rd, .string b.addr, .int .i64 (b.len : Nat)] 30) := by
    rw [hW]
    exact CellsAt.new' _ _ (by simp) _ _
  obtain ⟨a0, a1, a2, a3, _⟩ := c4_at H0.out
  go_enter Try.func29, Try.ntmps29
  go_wp2_with fail
  rw [← hW]
  clear hW
  go_wp2_with fail
  refine (HMA.out _).mono ?_
  rintro e w1 ⟨rfl, hb1⟩
  have HB1 : Hid (Below w.heap.size w w1) := HB.out.trans (hb1.mono HB.out.size)
  have G0 : Hid (CellsAt w1 w.heap.size #[.int .i64 a.fam, .int .u64 a.rd, .string a.addr, .int .i64 (a.len : Nat)] 30) := H0.out.below hb1 H0.out.lt
  have G1 : Hid (CellsAt w1 (w.heap.size + 1) #[.int .i64 b.fam, .int .u64 b.rd, .string b.addr, .int .i64 (b.len : Nat)] 30) := H1.out.below hb1 H1.out.lt
  clear hb1 H0 H1 HB a0 a1 a2 a3
  obtain ⟨b0, b1, b2, b3, _⟩ := c4_at G1.out
  go_wp2_with fail
  refine (HMB.out _).mono ?_
  rintro e w2 ⟨rfl, hb2⟩
  have HB2 : Hid (Below w.heap.size w w2) := HB1.out.trans (hb2.mono HB1.out.size)
  have K0 : Hid (CellsAt w2 w.heap.size #[.int .i64 a.fam, .int .u64 a.rd, .string a.addr, .int .i64 (a.len : Nat)] 30) := G0.out.below hb2 G0.out.lt
  have K1 : Hid (CellsAt w2 (w.heap.size + 1) #[.int .i64 b.fam, .int .u64 b.rd, .string b.addr, .int .i64 (b.len : Nat)] 30) := G1.out.below hb2 G1.out.lt
  clear hb2 G0 G1 HB1 b0 b1 b2 b3
  obtain ⟨a0, a1, a2, a3, _⟩ := c4_at K0.out
  obtain ⟨b0, b1, b2, b3, _⟩ := c4_at K1.out
  go_wp2_with fail
  go_ret
  exact ⟨HB2.out, false, rfl, HNO.out⟩
set_option maxRecDepth 100000 in
set_option maxHeartbeats 4000000 in
theorem rcov_len (a b : Tp) (ha : a.Ok) (hb : b.Ok) (hf : a.fam = b.fam) (hr : a.rd = b.rd) (hl : b.len < a.len) (w : World) : Calls Try.prog 29 #[a.v, b.v] w (RcovPost w a b) := by
  have hsa := ha.small
  have hsb := hb.small
  have hla := ha.le
  have hlb := hb.le
  have HMA := Lib.hid (fun w => rmay_any a.fam a.rd a.addr (a.len : Nat) w (by omega))
  have HMB := Lib.hid (fun w => rmay_any b.fam b.rd b.addr (b.len : Nat) w (by omega))
  rw [show decide (PrefOk a.fam a.rd a.addr (a.len : Nat)) = true from decide_eq_true ha] at HMA
  rw [show decide (PrefOk b.fam b.rd b.addr (b.len : Nat)) = true from decide_eq_true hb] at HMB
  have HNO : Hid (RcovIs a b false) := Iff.intro (fun h => (by cases h)) (fun h => absurd h.2.2.1 (by omega))
  have e1 : (a.fam == b.fam) = true := by rw [beq_iff_eq]; exact hf
  have e2 : (a.fam != b.fam) = false := by rw [bne, e1]; rfl
  have e3 : (a.rd == b.rd) = true := by rw [beq_iff_eq]; exact hr
  have e4 : (a.rd != b.rd) = false := by rw [bne, e3]; rfl
  clear hf hr
  clear ha hb
  unfold Tp.v
  obtain ⟨W, hW⟩ : ∃ W, W = (w.alloc (.cells #[.int .i64 a.fam, .int .u64 a.rd, .string a.addr, .int .i64 (a.len : Nat)] 30)).alloc (.cells #[.int .i64 b.fam, .int .u64 b.rd, .string b.addr, .int .i64 (b.len : Nat)] 30) := ⟨_, rfl⟩
  have HB : Hid (Below w.heap.size w W) := by
    rw [hW]
    show Below _ _ _
    exact ((Below.refl _ _).alloc (Nat.le_refl _) _).alloc (by simp) _
  have H0 : Hid (CellsAt W w.heap.size #[.int .i64 a.fam, .int .u64 a.rd, .string a.addr, .int .i64 (a.len : Nat)] 30) := by
    rw [hW]
    exact (CellsAt.new w _ _).alloc _
  have H1 : Hid (CellsAt W (w.heap.size + 1) #[.int .i64 b.fam, .int .u64 b.rd, .string b.addr, .int .i64 (b.len : Nat)] 30) := by
    rw [hW]
    exact CellsAt.new' _ _ (by simp) _ _
  obtain ⟨a0, a1, a2, a3, _⟩ := c4_at H0.out
  go_enter Try.func29, Try.ntmps29
  go_wp2_with fail
  rw [← hW]
  clear hW
  go_wp2_with fail
  refine (HMA.out _).mono ?_
  rintro e w1 ⟨rfl, hb1⟩
  have HB1 : Hid (Below w.heap.size w w1) := HB.out.trans (hb1.mono HB.out.size)
  have G0 : Hid (CellsAt w1 w.heap.size #[.int .i64 a.fam, .int .u64 a.rd, .string a.addr, .int .i64 (a.len : Nat)] 30) := H0.out.below hb1 H0.out.lt
  have G1 : Hid (CellsAt w1 (w.heap.size + 1) #[.int .i64 b.fam, .int .u64 b.rd, .string b.addr, .int .i64 (b.len : Nat)] 30) := H1.out.below hb1 H1.out.lt
  clear hb1 H0 H1 HB a0 a1 a2 a3
  obtain ⟨b0, b1, b2, b3, _⟩ := c4_at G1.out
  go_wp2_with fail
  refine (HMB.out _).mono ?_
  rintro e w2 ⟨rfl, hb2⟩
  have HB2 : Hid (Below w.heap.size w w2) := HB1.out.trans (hb2.mono HB1.out.size)
  have K0 : Hid (CellsAt w2 w.heap.size #[.int .i64 a.fam, .int .u64 a.rd, .string a.addr, .int .i64 (a.len : Nat)] 30) := G0.out.below hb2 G0.out.lt
  have K1 : Hid (CellsAt w2 (w.heap.size + 1) #[.int .i64 b.fam, .int .u64 b.rd, .string b.addr, .int .i64 (b.len : Nat)] 30) := G1.out.below hb2 G1.out.lt
  clear hb2 G0 G1 HB1 b0 b1 b2 b3
  obtain ⟨a0, a1, a2, a3, _⟩ := c4_at K0.out
  obtain ⟨b0, b1, b2, b3, _⟩ := c4_at K1.out
  go_wp2_with fail
  go_ret
  exact ⟨HB2.out, false, rfl, HNO.out⟩
set_option maxRecDepth 100000 in
set_option maxHeartbeats 4000000 in
theorem rcov_loop (a b : Tp) (ha : a.Ok) (hb : b.Ok) (hf : a.fam = b.fam) (hr : a.rd = b.rd) (hl : a.len ≤ b.len) (w : World) : Calls Try.prog 29 #[a.v, b.v] w (RcovPost w a b) := by
  have hsa := ha.small
  have hsb := hb.small
  have hla := ha.le
  have hlb := hb.le
  have HMA := Lib.hid (fun w => rmay_any a.fam a.rd a.addr (a.len : Nat) w (by omega))
  have HMB := Lib.hid (fun w => rmay_any b.fam b.rd b.addr (b.len : Nat) w (by omega))
  rw [show decide (PrefOk a.fam a.rd a.addr (a.len : Nat)) = true from decide_eq_true ha] at HMA
  rw [show decide (PrefOk b.fam b.rd b.addr (b.len : Nat)) = true from decide_eq_true hb] at HMB
  have e1 : (a.fam == b.fam) = true := by rw [beq_iff_eq]; exact hf
  have e2 : (a.fam != b.fam) = false := by rw [bne, e1]; rfl
  have e3 : (a.rd == b.rd) = true := by rw [beq_iff_eq]; exact hr
  have e4 : (a.rd != b.rd) = false := by rw [bne, e3]; rfl
  have e5 : decide (b.len < a.len) = false := decide_eq_false (by omega)
  have HBA := Lib.hid (fun (k : Nat) w hk => bit_any a.addr k w hk (by omega))
  have HBB := Lib.hid (fun (k : Nat) w hk => bit_any b.addr k w hk (by omega))
  have HNO : Hid (∀ k, k < a.len → a.bit k ≠ b.bit k → RcovIs a b false) := fun k hk hn => Iff.intro (fun h => (by cases h)) (fun h => absurd (h.2.2.2 k hk) hn)
  have HYES : Hid (eqb a.len a b → RcovIs a b true) := fun h => Iff.intro (fun _ => ⟨hf, hr, hl, h⟩) (fun _ => rfl)
  have HE0 : Hid (eqb 0 a b) := fun i hi => absurd hi (by omega)
  have hl2 : a.len ≤ 128 := by omega
  have HLL := Lib.hid hl
  clear hf hr hl
  clear ha hb
  unfold Tp.v
  obtain ⟨W, hW⟩ : ∃ W, W = (w.alloc (.cells #[.int .i64 a.fam, .int .u64 a.rd, .string a.addr, .int .i64 (a.len : Nat)] 30)).alloc (.cells #[.int .i64 b.fam, .int .u64 b.rd, .string b.addr, .int .i64 (b.len : Nat)] 30) := ⟨_, rfl⟩
  have HB : Hid (Below w.heap.size w W) := by
    rw [hW]
    show Below _ _ _
    exact ((Below.refl _ _).alloc (Nat.le_refl _) _).alloc (by simp) _
  have H0 : Hid (CellsAt W w.heap.size #[.int .i64 a.fam, .int .u64 a.rd, .string a.addr, .int .i64 (a.len : Nat)] 30) := by
    rw [hW]
    exact (CellsAt.new w _ _).alloc _
  have H1 : Hid (CellsAt W (w.heap.size + 1) #[.int .i64 b.fam, .int .u64 b.rd, .string b.addr, .int .i64 (b.len : Nat)] 30) := by
    rw [hW]
    exact CellsAt.new' _ _ (by simp) _ _
  obtain ⟨a0, a1, a2, a3, _⟩ := c4_at H0.out
  go_enter Try.func29, Try.ntmps29
  go_wp2_with fail
  rw [← hW]
  clear hW
  go_wp2_with fail
  refine (HMA.out _).mono ?_
  rintro e w1 ⟨rfl, hb1⟩
  have HB1 : Hid (Below w.heap.size w w1) := HB.out.trans (hb1.mono HB.out.size)
  have G0 : Hid (CellsAt w1 w.heap.size #[.int .i64 a.fam, .int .u64 a.rd, .string a.addr, .int .i64 (a.len : Nat)] 30) := H0.out.below hb1 H0.out.lt
  have G1 : Hid (CellsAt w1 (w.heap.size + 1) #[.int .i64 b.fam, .int .u64 b.rd, .string b.addr, .int .i64 (b.len : Nat)] 30) := H1.out.below hb1 H1.out.lt
  clear hb1 H0 H1 HB a0 a1 a2 a3
  obtain ⟨b0, b1, b2, b3, _⟩ := c4_at G1.out
  go_wp2_with fail
  refine (HMB.out _).mono ?_
  rintro e w2 ⟨rfl, hb2⟩
  have HB2 : Hid (Below w.heap.size w w2) := HB1.out.trans (hb2.mono HB1.out.size)
  have K0 : Hid (CellsAt w2 w.heap.size #[.int .i64 a.fam, .int .u64 a.rd, .string a.addr, .int .i64 (a.len : Nat)] 30) := G0.out.below hb2 G0.out.lt
  have K1 : Hid (CellsAt w2 (w.heap.size + 1) #[.int .i64 b.fam, .int .u64 b.rd, .string b.addr, .int .i64 (b.len : Nat)] 30) := G1.out.below hb2 G1.out.lt
  clear hb2 G0 G1 HB1 b0 b1 b2 b3
  obtain ⟨a0, a1, a2, a3, _⟩ := c4_at K0.out
  obtain ⟨b0, b1, b2, b3, _⟩ := c4_at K1.out
  go_wp2_with fail
  go_loopw [5] (fun i wr => ∃ k q : Nat, k ≤ a.len ∧ i = .int .i64 k ∧ wr = w2.drewN q ∧ Hid (eqb k a b)) (fun i _ => a.len + 1 - (intOf i).toNat)
  case atStart => exact ⟨0, 0, Nat.zero_le _, rfl, rfl, HE0⟩
  case round =>
    obtain ⟨k, q, hk, rfl, rfl, HK⟩ := hrel
    have hl9 := HLL.out
    by_cases hlt : k < a.len
    · have HA := Lib.hid (fun w => HBA.out k w (by omega))
      have HC := Lib.hid (fun w => HBB.out k w (by omega))
      by_cases hbt : bitV a.addr k = bitV b.addr k
      · have HK2 : Hid (eqb (k + 1) a b) := fun i hi => by
          by_cases hik : i = k
          · rw [hik]; exact hbt
          · exact HK.out i (by omega)
        rw [hbt] at HA
        clear hbt
        generalize bitV b.addr k = y at HA HC
        have z1 : (((y : Nat) : Int) == ((y : Nat) : Int)) = true := by simp
        have z2 : (((y : Nat) : Int) != ((y : Nat) : Int)) = false := by simp
        have z3 : (y == y) = true := by simp
        have z4 : (y != y) = false := by simp
        go_wp2_with fail
        refine wp_region_held_drew (S := fun w' => Below (w2.drewN q).heap.size (w2.drewN q) w') (by kernel_rfl) (below_drewN (Below.refl _ _) 1) (fun hHeld => ?_)
        refine wpAnyH_take (i := 0) (oi := vO0) (v := ?_) rfl (by kernel_rfl) (by kernel_rfl) (by kernel_rfl) (fun _ _ _ h => h) (Or.inl ⟨by rfl, ?_⟩) hHeld ?_
        rotate_left
        · intro w hSw
          clear hSw
          try dsimp only [vO0]
          go_simp
          try with_reducible rfl
        try simp only [vO0, Act.put, List.setIfInBounds_toArray, List.set_cons_zero, List.set_cons_succ]
        refine wpAnyH_take (i := 1) (oi := vO1) (v := ?_) rfl (by kernel_rfl) (by kernel_rfl) (by kernel_rfl) (fun _ _ _ h => h) (Or.inl ⟨by rfl, ?_⟩) hHeld ?_
        rotate_left
        · intro w hSw
          obtain ⟨a0, a1, a2, a3, _⟩ := c4_at (K0.out.below ((below_drewN (Below.refl _ _) q).trans (hSw.mono (Nat.le_refl _))) K0.out.lt)
          obtain ⟨b0, b1, b2, b3, _⟩ := c4_at (K1.out.below ((below_drewN (Below.refl _ _) q).trans (hSw.mono (Nat.le_refl _))) K1.out.lt)
          clear hSw
          try dsimp only [vO1]
          go_simp
          try with_reducible rfl
        try simp only [vO1, Act.put, List.setIfInBounds_toArray, List.set_cons_zero, List.set_cons_succ]
        refine wpAnyH_take (i := 2) (oi := vO2) (v := ?_) rfl (by kernel_rfl) (by kernel_rfl) (by kernel_rfl) (fun _ _ _ h => h) (Or.inl ⟨by rfl, ?_⟩) hHeld ?_
        rotate_left
        · intro w hSw
          clear hSw
          try dsimp only [vO2]
          go_simp
          try with_reducible rfl
        try simp only [vO2, Act.put, List.setIfInBounds_toArray, List.set_cons_zero, List.set_cons_succ]
        refine wpAnyH_take (i := 4) (oi := vO4) (v := ?_) rfl (by kernel_rfl) (by kernel_rfl) (by kernel_rfl) (fun _ _ _ h => h) (Or.inl ⟨by rfl, ?_⟩) hHeld ?_
        rotate_left
        · intro w hSw
          clear hSw
          try dsimp only [vO4]
          go_simp
          try with_reducible rfl
        try simp only [vO4, Act.put, List.setIfInBounds_toArray, List.set_cons_zero, List.set_cons_succ]
        refine wpAnyH_take (i := 5) (oi := vO5) (v := ?_) rfl (by kernel_rfl) (by kernel_rfl) (by kernel_rfl) (fun _ _ _ h => h) (Or.inl ⟨by rfl, ?_⟩) hHeld ?_
        rotate_left
        · intro w hSw
          obtain ⟨a0, a1, a2, a3, _⟩ := c4_at (K0.out.below ((below_drewN (Below.refl _ _) q).trans (hSw.mono (Nat.le_refl _))) K0.out.lt)
          obtain ⟨b0, b1, b2, b3, _⟩ := c4_at (K1.out.below ((below_drewN (Below.refl _ _) q).trans (hSw.mono (Nat.le_refl _))) K1.out.lt)
          clear hSw
          try dsimp only [vO5]
          go_simp
          try with_reducible rfl
        try simp only [vO5, Act.put, List.setIfInBounds_toArray, List.set_cons_zero, List.set_cons_succ]
        refine wpAnyH_take (i := 6) (oi := vO6) (v := ?_) rfl (by kernel_rfl) (by kernel_rfl) (by kernel_rfl) (fun _ _ _ h => h) (Or.inl ⟨by rfl, ?_⟩) hHeld ?_
        rotate_left
        · intro w hSw
          clear hSw
          try dsimp only [vO6]
          go_simp
          try with_reducible rfl
        try simp only [vO6, Act.put, List.setIfInBounds_toArray, List.set_cons_zero, List.set_cons_succ]
        refine wpAnyH_ready (rs := [3]) (by as_aux_lemma => kernel_rfl) (by simp) ?_
        refine AllReadyH.cons (o := vO3) rfl (fun K hK => ?_) AllReadyH.nil
        dsimp only [vO3]
        go_simp
        refine (HA.out _).mono ?_
        rintro e u1 ⟨rfl, hwb⟩
        rw [hwb]
        clear hwb u1
        go_wp2_with fail
        refine hK.out _ _ hHeld (fun hHeld => ?_)
        clear hK K
        try simp only [Act.put, List.setIfInBounds_toArray, List.set_cons_zero, List.set_cons_succ]
        refine wpAnyH_ready (rs := [7]) (by as_aux_lemma => kernel_rfl) (by simp) ?_
        refine AllReadyH.cons (o := vO7) rfl (fun K hK => ?_) AllReadyH.nil
        dsimp only [vO7]
        go_simp
        refine (HC.out _).mono ?_
        rintro e u2 ⟨rfl, hwb⟩
        rw [hwb]
        clear hwb u2
        go_wp2_with fail
        refine hK.out _ _ hHeld (fun hHeld => ?_)
        clear hK K
        try simp only [Act.put, List.setIfInBounds_toArray, List.set_cons_zero, List.set_cons_succ]
        refine wpAnyH_take (i := 8) (oi := vO8) (v := ?_) rfl (by kernel_rfl) (by kernel_rfl) (by kernel_rfl) (fun _ _ _ h => h) (Or.inl ⟨by rfl, ?_⟩) hHeld ?_
        rotate_left
        · intro w hSw
          clear hSw
          try dsimp only [vO8]
          go_simp
          try with_reducible rfl
        try simp only [vO8, Act.put, List.setIfInBounds_toArray, List.set_cons_zero, List.set_cons_succ]
        refine wpAnyH_done (by as_aux_lemma => kernel_rfl) ?_ _
        clear hHeld
        go_wp2_with fail
        exact ⟨⟨k + 1, q + 1, by omega, by go_num, rfl, HK2⟩, by simp [intOf]; omega⟩
      · have HN := Lib.hid (HNO.out k hlt hbt)
        have z1 : (((bitV a.addr k : Nat) : Int) == ((bitV b.addr k : Nat) : Int)) = false := by rw [beq_eq_false_iff_ne]; omega
        have z2 : (((bitV a.addr k : Nat) : Int) != ((bitV b.addr k : Nat) : Int)) = true := by rw [bne, z1]; rfl
        have z3 : ¬ bitV a.addr k = bitV b.addr k := hbt
        clear hbt
        generalize bitV a.addr k = x at HA z1 z2 z3
        generalize bitV b.addr k = y at HC z1 z2 z3
        go_wp2_with fail
        refine wp_region_held_drew (S := fun w' => Below (w2.drewN q).heap.size (w2.drewN q) w') (by kernel_rfl) (below_drewN (Below.refl _ _) 1) (fun hHeld => ?_)
        refine wpAnyH_take (i := 0) (oi := vO0) (v := ?_) rfl (by kernel_rfl) (by kernel_rfl) (by kernel_rfl) (fun _ _ _ h => h) (Or.inl ⟨by rfl, ?_⟩) hHeld ?_
        rotate_left
        · intro w hSw
          clear hSw
          try dsimp only [vO0]
          go_simp
          try with_reducible rfl
        try simp only [vO0, Act.put, List.setIfInBounds_toArray, List.set_cons_zero, List.set_cons_succ]
        refine wpAnyH_take (i := 1) (oi := vO1) (v := ?_) rfl (by kernel_rfl) (by kernel_rfl) (by kernel_rfl) (fun _ _ _ h => h) (Or.inl ⟨by rfl, ?_⟩) hHeld ?_
        rotate_left
        · intro w hSw
          obtain ⟨a0, a1, a2, a3, _⟩ := c4_at (K0.out.below ((below_drewN (Below.refl _ _) q).trans (hSw.mono (Nat.le_refl _))) K0.out.lt)
          obtain ⟨b0, b1, b2, b3, _⟩ := c4_at (K1.out.below ((below_drewN (Below.refl _ _) q).trans (hSw.mono (Nat.le_refl _))) K1.out.lt)
          clear hSw
          try dsimp only [vO1]
          go_simp
          try with_reducible rfl
        try simp only [vO1, Act.put, List.setIfInBounds_toArray, List.set_cons_zero, List.set_cons_succ]
        refine wpAnyH_take (i := 2) (oi := vO2) (v := ?_) rfl (by kernel_rfl) (by kernel_rfl) (by kernel_rfl) (fun _ _ _ h => h) (Or.inl ⟨by rfl, ?_⟩) hHeld ?_
        rotate_left
        · intro w hSw
          clear hSw
          try dsimp only [vO2]
          go_simp
          try with_reducible rfl
        try simp only [vO2, Act.put, List.setIfInBounds_toArray, List.set_cons_zero, List.set_cons_succ]
        refine wpAnyH_take (i := 4) (oi := vO4) (v := ?_) rfl (by kernel_rfl) (by kernel_rfl) (by kernel_rfl) (fun _ _ _ h => h) (Or.inl ⟨by rfl, ?_⟩) hHeld ?_
        rotate_left
        · intro w hSw
          clear hSw
          try dsimp only [vO4]
          go_simp
          try with_reducible rfl
        try simp only [vO4, Act.put, List.setIfInBounds_toArray, List.set_cons_zero, List.set_cons_succ]
        refine wpAnyH_take (i := 5) (oi := vO5) (v := ?_) rfl (by kernel_rfl) (by kernel_rfl) (by kernel_rfl) (fun _ _ _ h => h) (Or.inl ⟨by rfl, ?_⟩) hHeld ?_
        rotate_left
        · intro w hSw
          obtain ⟨a0, a1, a2, a3, _⟩ := c4_at (K0.out.below ((below_drewN (Below.refl _ _) q).trans (hSw.mono (Nat.le_refl _))) K0.out.lt)
          obtain ⟨b0, b1, b2, b3, _⟩ := c4_at (K1.out.below ((below_drewN (Below.refl _ _) q).trans (hSw.mono (Nat.le_refl _))) K1.out.lt)
          clear hSw
          try dsimp only [vO5]
          go_simp
          try with_reducible rfl
        try simp only [vO5, Act.put, List.setIfInBounds_toArray, List.set_cons_zero, List.set_cons_succ]
        refine wpAnyH_take (i := 6) (oi := vO6) (v := ?_) rfl (by kernel_rfl) (by kernel_rfl) (by kernel_rfl) (fun _ _ _ h => h) (Or.inl ⟨by rfl, ?_⟩) hHeld ?_
        rotate_left
        · intro w hSw
          clear hSw
          try dsimp only [vO6]
          go_simp
          try with_reducible rfl
        try simp only [vO6, Act.put, List.setIfInBounds_toArray, List.set_cons_zero, List.set_cons_succ]
        refine wpAnyH_ready (rs := [3]) (by as_aux_lemma => kernel_rfl) (by simp) ?_
        refine AllReadyH.cons (o := vO3) rfl (fun K hK => ?_) AllReadyH.nil
        dsimp only [vO3]
        go_simp
        refine (HA.out _).mono ?_
        rintro e u1 ⟨rfl, hwb⟩
        rw [hwb]
        clear hwb u1
        go_wp2_with fail
        refine hK.out _ _ hHeld (fun hHeld => ?_)
        clear hK K
        try simp only [Act.put, List.setIfInBounds_toArray, List.set_cons_zero, List.set_cons_succ]
        refine wpAnyH_ready (rs := [7]) (by as_aux_lemma => kernel_rfl) (by simp) ?_
        refine AllReadyH.cons (o := vO7) rfl (fun K hK => ?_) AllReadyH.nil
        dsimp only [vO7]
        go_simp
        refine (HC.out _).mono ?_
        rintro e u2 ⟨rfl, hwb⟩
        rw [hwb]
        clear hwb u2
        go_wp2_with fail
        refine hK.out _ _ hHeld (fun hHeld => ?_)
        clear hK K
        try simp only [Act.put, List.setIfInBounds_toArray, List.set_cons_zero, List.set_cons_succ]
        refine wpAnyH_take (i := 8) (oi := vO8) (v := ?_) rfl (by kernel_rfl) (by kernel_rfl) (by kernel_rfl) (fun _ _ _ h => h) (Or.inl ⟨by rfl, ?_⟩) hHeld ?_
        rotate_left
        · intro w hSw
          clear hSw
          try dsimp only [vO8]
          go_simp
          try with_reducible rfl
        try simp only [vO8, Act.put, List.setIfInBounds_toArray, List.set_cons_zero, List.set_cons_succ]
        refine wpAnyH_done (by as_aux_lemma => kernel_rfl) ?_ _
        clear hHeld
        go_wp2_with fail
        go_ret
        exact ⟨below_drewN HB2.out (q + 1), false, rfl, HN.out⟩
    · obtain rfl : a.len = k := by omega
      have HN := Lib.hid (HYES.out HK.out)
      go_wp2_with fail
      go_ret
      exact ⟨below_drewN HB2.out q, true, rfl, HN.out⟩
theorem rcov_any (a b : Tp) (ha : a.Ok) (hb : b.Ok) (w : World) : Calls Try.prog 29 #[a.v, b.v] w (RcovPost w a b) := by
  by_cases hf : a.fam = b.fam
  · by_cases hr : a.rd = b.rd
    · by_cases hl : a.len ≤ b.len
      · exact rcov_loop a b ha hb hf hr hl w
      · exact rcov_len a b ha hb hf hr (by omega) w
    · exact rcov_rd a b ha hb hf hr w
  · exact rcov_fam a b ha hb hf w
end Go.Proofs.Ythnjepehiddogaa
