/-
  Several texts in one.
-/
import Derived.Test.YtojiieghjhjoaaaGreatKN20
import Derived.Test.YtojiieghjhjoaaaGreatKN18
set_option linter.unusedVariables false
set_option linter.unusedSimpArgs false
namespace Go.Proofs.YtojiieghjhjoaaaGreat
open Go.RowKit

/-- a told prefix -/
structure Nl where
  fam : Int
  rd : Int
  addr : ByteArray
  len : Int
  id : Int
  label : Int
def Nl.cs (n : Nl) : List Value := [.int .i64 n.fam, .int .u64 n.rd, .string n.addr, .int .i64 n.len, .int .u32 n.id, .int .u32 n.label]
def Nl.v (n : Nl) : Value := .agg #[.int .i64 n.fam, .int .u64 n.rd, .string n.addr, .int .i64 n.len, .int .u32 n.id, .int .u32 n.label]
structure Nl.Ok (n : Nl) : Prop where
  fam : -9223372036854775808 ≤ n.fam ∧ n.fam ≤ 9223372036854775807
  rd : 0 ≤ n.rd ∧ n.rd < 18446744073709551616
  addr : n.addr.size ≤ 9223372036854775807
  len : -9223372036854775808 ≤ n.len ∧ n.len ≤ 9223372036854775807
  id : 0 ≤ n.id ∧ n.id < 4294967296
  label : 0 ≤ n.label ∧ n.label < 4294967296
/-- may it be told? -/
def nlMay (n : Nl) : Prop := PrefOk n.fam n.rd n.addr n.len ∧ n.label ≤ 1048575 ∧ (n.label = 0 ∨ 3 ≤ n.fam)
instance (n : Nl) : Decidable (nlMay n) := by unfold nlMay; infer_instance

/-- .. as an error's number -/
def nlC (n : Nl) : Int := if nlMay n then 0 else 2

/-- block b holds a told prefix -/
def NlAt (w : World) (b o : Nat) (n : Nl) : Prop := w.cell? ⟨b, o, none⟩ = some (.int .i64 n.fam) ∧ w.cell? ⟨b, o + 1, none⟩ = some (.int .u64 n.rd) ∧ w.cell? ⟨b, o + 2, none⟩ = some (.string n.addr) ∧ w.cell? ⟨b, o + 3, none⟩ = some (.int .i64 n.len) ∧ w.cell? ⟨b, o + 4, none⟩ = some (.int .u32 n.id) ∧ w.cell? ⟨b, o + 5, none⟩ = some (.int .u32 n.label)
theorem NlAt.below {w w' : World} {b o B : Nat} {n : Nl} (h : NlAt w b o n) (hb : Below B w w') (hB : b < B) : NlAt w' b o n := by
  obtain ⟨h0, h1, h2, h3, h4, h5⟩ := h
  exact ⟨(hb.cell (p := ⟨b, _, none⟩) hB).trans h0, (hb.cell (p := ⟨b, _, none⟩) hB).trans h1, (hb.cell (p := ⟨b, _, none⟩) hB).trans h2, (hb.cell (p := ⟨b, _, none⟩) hB).trans h3, (hb.cell (p := ⟨b, _, none⟩) hB).trans h4, (hb.cell (p := ⟨b, _, none⟩) hB).trans h5⟩
theorem NlAt.new (w : World) (n : Nl) (T : TypeId) : NlAt (w.alloc (.cells #[.int .i64 n.fam, .int .u64 n.rd, .string n.addr, .int .i64 n.len, .int .u32 n.id, .int .u32 n.label] T)) w.heap.size 0 n := by
  have hc := fun j => cell_of_row (w.alloc (.cells #[.int .i64 n.fam, .int .u64 n.rd, .string n.addr, .int .i64 n.len, .int .u32 n.id, .int .u32 n.label] T)) w.heap.size j _ _ _ (heap_alloc_new w _)
  exact ⟨(hc 0).trans rfl, (hc 1).trans rfl, (hc 2).trans rfl, (hc 3).trans rfl, (hc 4).trans rfl, (hc 5).trans rfl⟩

theorem NlAt.lt {w : World} {b o : Nat} {n : Nl} (h : NlAt w b o n) : b < w.heap.size := World.block_lt_of_cell? w _ h.1

set_option maxRecDepth 100000 in
set_option maxHeartbeats 2000000 in
theorem ncheck_any (n : Nl) (hn : n.Ok) (w : World) : Calls Tryz.prog 66 #[n.v] w fun e w' => e = .returned (.int .i64 (nlC n)) ∧ Below w.heap.size w w' := by
  obtain ⟨l0, l1⟩ := hn.label
  have HC := Lib.hid (fun w => ckp_any n.fam n.rd n.addr n.len w hn.addr)
  have HW := Lib.hid (Below.alloc (Below.refl w.heap.size w) (Nat.le_refl _) (.cells #[.int .i64 n.fam, .int .u64 n.rd, .string n.addr, .int .i64 n.len, .int .u32 n.id, .int .u32 n.label] 106))
  have HN := Lib.hid (NlAt.new w n 106)
  unfold Nl.v
  by_cases c1 : PrefOk n.fam n.rd n.addr n.len
  · have hf := famSize_five c1.1
    have HL := Lib.hid (fun w => nlab_any n.fam w hf.1 hf.2)
    rw [show prefC n.fam n.rd n.addr n.len = 0 from if_pos c1] at HC
    by_cases c2 : n.label ≤ 1048575
    · by_cases c3 : n.label = 0
      · have hr : Hid (nlC n = 0) := if_pos ⟨c1, c2, Or.inl c3⟩
        have d1 : decide ((0 : Int) < n.label) = false := decide_eq_false (by omega)
        have d2 : decide ((1048575 : Int) < n.label) = false := decide_eq_false (by omega)
        clear c1 c3
        go_enter Tryz.func66, Tryz.ntmps66
        go_wp2_with fail
        have HW' := HW
        generalize w.alloc (.cells #[.int .i64 n.fam, .int .u64 n.rd, .string n.addr, .int .i64 n.len, .int .u32 n.id, .int .u32 n.label] 106) = W0 at HW HW' HN ⊢
        refine (HC.out _).mono ?_
        rintro e w1 ⟨rfl, hb⟩
        have HN1 := Lib.hid (HN.out.below hb (HN.out.lt))
        have HW1 := Lib.hid (HW.out.trans (hb.mono HW.out.size))
        clear hb HW HW' HN
        obtain ⟨k0, k1, k2, k3, k4, k5⟩ := HN1.out
        go_wp2_with fail
        go_ret
        exact ⟨ret_int hr.out.symm, HW1.out⟩
      · by_cases c4 : 3 ≤ n.fam
        · have hr : Hid (nlC n = 0) := if_pos ⟨c1, c2, Or.inr c4⟩
          have d1 : decide ((0 : Int) < n.label) = true := decide_eq_true (by omega)
          have d2 : decide ((1048575 : Int) < n.label) = false := decide_eq_false (by omega)
          rw [show labB n.fam = true from decide_eq_true c4] at HL
          clear c1 c3 c4
          go_enter Tryz.func66, Tryz.ntmps66
          go_wp2_with fail
          have HW' := HW
          generalize w.alloc (.cells #[.int .i64 n.fam, .int .u64 n.rd, .string n.addr, .int .i64 n.len, .int .u32 n.id, .int .u32 n.label] 106) = W0 at HW HW' HN ⊢
          refine (HC.out _).mono ?_
          rintro e w1 ⟨rfl, hb⟩
          have HN1 := Lib.hid (HN.out.below hb (HN.out.lt))
          have HW1 := Lib.hid (HW.out.trans (hb.mono HW.out.size))
          clear hb HW HW' HN
          obtain ⟨k0, k1, k2, k3, k4, k5⟩ := HN1.out
          go_wp2_with fail
          refine (HL.out _).mono ?_
          rintro e w2 ⟨rfl, rfl⟩
          go_wp2_with fail
          go_ret
          exact ⟨ret_int hr.out.symm, HW1.out⟩
        · have hr : Hid (nlC n = 2) := if_neg (fun h => h.2.2.elim c3 c4)
          have d1 : decide ((0 : Int) < n.label) = true := decide_eq_true (by omega)
          have d2 : decide ((1048575 : Int) < n.label) = false := decide_eq_false (by omega)
          rw [show labB n.fam = false from decide_eq_false c4] at HL
          clear c1 c3 c4
          go_enter Tryz.func66, Tryz.ntmps66
          go_wp2_with fail
          have HW' := HW
          generalize w.alloc (.cells #[.int .i64 n.fam, .int .u64 n.rd, .string n.addr, .int .i64 n.len, .int .u32 n.id, .int .u32 n.label] 106) = W0 at HW HW' HN ⊢
          refine (HC.out _).mono ?_
          rintro e w1 ⟨rfl, hb⟩
          have HN1 := Lib.hid (HN.out.below hb (HN.out.lt))
          have HW1 := Lib.hid (HW.out.trans (hb.mono HW.out.size))
          clear hb HW HW' HN
          obtain ⟨k0, k1, k2, k3, k4, k5⟩ := HN1.out
          go_wp2_with fail
          refine (HL.out _).mono ?_
          rintro e w2 ⟨rfl, rfl⟩
          go_wp2_with fail
          go_ret
          exact ⟨ret_int hr.out.symm, HW1.out⟩
    · have hr : Hid (nlC n = 2) := if_neg (fun h => c2 h.2.1)
      have d2 : decide ((1048575 : Int) < n.label) = true := decide_eq_true (by omega)
      clear c1
      go_enter Tryz.func66, Tryz.ntmps66
      go_wp2_with fail
      have HW' := HW
      generalize w.alloc (.cells #[.int .i64 n.fam, .int .u64 n.rd, .string n.addr, .int .i64 n.len, .int .u32 n.id, .int .u32 n.label] 106) = W0 at HW HW' HN ⊢
      refine (HC.out _).mono ?_
      rintro e w1 ⟨rfl, hb⟩
      have HN1 := Lib.hid (HN.out.below hb (HN.out.lt))
      have HW1 := Lib.hid (HW.out.trans (hb.mono HW.out.size))
      clear hb HW HW' HN
      obtain ⟨k0, k1, k2, k3, k4, k5⟩ := HN1.out
      go_wp2_with fail
      go_ret
      exact ⟨ret_int hr.out.symm, HW1.out⟩
  · have hr : Hid (nlC n = 2) := if_neg (fun h => c1 h.1)
    rw [show prefC n.fam n.rd n.addr n.len = 2 from if_neg c1] at HC
    clear c1
    go_enter Tryz.func66, Tryz.ntmps66
    go_wp2_with fail
    have HW' := HW
    generalize w.alloc (.cells #[.int .i64 n.fam, .int .u64 n.rd, .string n.addr, .int .i64 n.len, .int .u32 n.id, .int .u32 n.label] 106) = W0 at HW HW' HN ⊢
    refine (HC.out _).mono ?_
    rintro e w1 ⟨rfl, hb⟩
    have HN1 := Lib.hid (HN.out.below hb (HN.out.lt))
    have HW1 := Lib.hid (HW.out.trans (hb.mono HW.out.size))
    clear hb HW HW' HN
    obtain ⟨k0, k1, k2, k3, k4, k5⟩ := HN1.out
    go_wp2_with fail
    go_ret
    exact ⟨ret_int hr.out.symm, HW1.out⟩

end Go.Proofs.YtojiieghjhjoaaaGreat
