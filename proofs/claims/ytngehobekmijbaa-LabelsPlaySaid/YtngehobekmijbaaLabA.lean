/-
  Labels: their keys, what may be one. Conditions: sizes.
-/
import Derived.Test.YtngehobekmijbaaMaps
import Derived.Test.YtngehobekmijbaaPrimD
import Derived.Test.YtngehobekmijbaaShelf
set_option linter.unusedVariables false
set_option linter.unusedSimpArgs false
namespace Go.Proofs.Ytngehobekmijbaa
open Go.RowKit Go.MapKept
open Go.Maps (Keyed)

/-- what a label is for -/
structure LK where
  vrf : ByteArray
  fam : Int
  rd : Int
  addr : ByteArray
  len : Int
def LK.v (k : LK) : Value := .agg #[.string k.vrf, .int .i64 k.fam, .int .u64 k.rd, .string k.addr, .int .i64 k.len]
structure LK.Ok (k : LK) : Prop where
  vrf : k.vrf.size ≤ 9223372036854775807
  addr : k.addr.size ≤ 9223372036854775807
  fam : -9223372036854775808 ≤ k.fam ∧ k.fam ≤ 9223372036854775807
  rd : 0 ≤ k.rd ∧ k.rd ≤ 18446744073709551615
  len : -9223372036854775808 ≤ k.len ∧ k.len ≤ 9223372036854775807
theorem LK.v_inj {a b : LK} (h : a.v = b.v) : a = b := by
  cases a; cases b
  simp [LK.v] at h
  simp [h]

theorem lkRow : 34 < Try.prog.types.size := by decide +kernel
theorem lkWide : (match Try.prog.underlying 34 with | some (.array _ _) | some (.struct _) => true | _ => false) = true := by kernel_rfl
theorem lkLaw : Keyed Try.prog 34 := Keyed.of_law (deep_law_laid laidOut (m := 5) (by omega) lkRow (by kernel_rfl) lkWide)
theorem u32Law : Keyed Try.prog 27 := Maps.int_keyed Try.underlying27
theorem u32_key (n : Nat) (h : n < 4294967296) : keyOf Try.prog 27 (.int .u32 n) = some (.int .u32 n) :=
  Maps.keyOf_int_mk Try.underlying27 (by simp [Lit.wf, IntKind.min, IntKind.max, IntKind.signed, IntKind.bits]; omega)

theorem lk_key (k : LK) (h : k.Ok) : ∃ l, keyOf Try.prog 34 k.v = some l := by
  obtain ⟨h1, h2, h3, h4, h5⟩ := h
  have w1 : (Lit.int .i64 k.fam).wf = true := by simp [Lit.wf, IntKind.min, IntKind.max, IntKind.signed, IntKind.bits]; omega
  have w2 : (Lit.int .u64 k.rd).wf = true := by simp [Lit.wf, IntKind.min, IntKind.max, IntKind.signed, IntKind.bits]; omega
  have w3 : (Lit.int .i64 k.len).wf = true := by simp [Lit.wf, IntKind.min, IntKind.max, IntKind.signed, IntKind.bits]; omega
  have m1 : k.vrf.size ≤ maxLen := by unfold maxLen; omega
  have m2 : k.addr.size ≤ maxLen := by unfold maxLen; omega
  have kt : Try.prog.keyType 34 = true := by kernel_rfl
  have hf : k.v.formed Try.prog 34 = true := by
    unfold LK.v
    kernel_rfl
  have hc1 : Try.prog.cellsOf 34 = 5 := by kernel_rfl
  have hc2 : Try.prog.cellsOf 32 = 4 := by kernel_rfl
  have hc3 : Try.prog.cellsOf 9 = 1 := by kernel_rfl
  have hc4 : Try.prog.cellsOf 3 = 1 := by kernel_rfl
  have hc5 : Try.prog.cellsOf 30 = 1 := by kernel_rfl
  have hv : k.v.cells.toList = [.string k.vrf, .int .i64 k.fam, .int .u64 k.rd, .string k.addr, .int .i64 k.len] := rfl
  have hk : ∃ ls, Try.prog.keyLits (Try.prog.types.size + 1) 34 k.v.cells.toList = some ls := by
    rw [hv]
    obtain ⟨n, hn⟩ : ∃ n, Try.prog.types.size = n + 2 := ⟨Try.prog.types.size - 2, by have : 2 ≤ Try.prog.types.size := (by decide +kernel); omega⟩
    rw [hn]
    simp (decide := true) [Program.keyLits, Try.underlying34, Try.underlying32, Try.underlying9, Try.underlying3, Try.underlying30, hc1, hc2, hc3, hc4, hc5, w1, w2, w3, m1, m2]
  obtain ⟨ls, hls⟩ := hk
  refine ⟨.string (keyBytes ls), ?_⟩
  unfold keyOf
  rw [Try.underlying34]
  simp only [kt, hf, Bool.and_self, if_true, hls, Option.map_some]

end Go.Proofs.Ytngehobekmijbaa
