/-
  Contracts of msg.Note, ReadNote, Told and of heraldref12.Note, ReadNote, Told. Conditions: sizes.
-/
import Derived.Test.YtpipeilmolmfpaaMsgA
import Derived.Test.YtpipeilmolmfpaaOwn
import Derived.StillTailTactics
set_option linter.unusedVariables false
set_option linter.unusedSimpArgs false
namespace Go.Proofs.Ytpipeilmolmfpaa
open Go.RowKit

/-- string([]byte{..}) of a slice just made -/
theorem run_str_list (w : World) (l : List UInt8) :
    (convert 47 9 (.slice (some ⟨w.heap.size, 0, none⟩) l.length l.length)).run Try.prog (w.alloc (.cells (byteVals l).toArray 5)) = .ok (.string ⟨l.toArray⟩) (w.alloc (.cells (byteVals l).toArray 5)) := by
  refine run_convert_bytes_back (P := Try.prog) _ 47 9 5 ⟨w.heap.size, 0, none⟩ l.length l Try.underlying47 Try.underlying5 Try.underlying9 (fun j hj => ?_)
  rw [add_flat, cell_of_row _ w.heap.size j _ _ _ (heap_alloc_new w _)]
  simp [byteVals, hj]

/-- a note's value -/
def noteV (c s : UInt8) (d : ByteArray) : Value := .agg #[.int .u8 c.toNat, .int .u8 s.toNat, .string d]

set_option maxRecDepth 100000 in
theorem note_any (fn : Nat) (hfn : fn = 15 ∨ fn = 16) (c s : UInt8) (d : ByteArray) (w : World) (hd : d.size ≤ 1152921504606846976) :
    Calls Try.prog fn #[noteV c s d] w fun e w' => e = .returned (if c = 0 then .tuple #[.string ByteArray.empty, .int .i64 2] else if 4075 < d.size then .tuple #[.string ByteArray.empty, .int .i64 3] else .tuple #[.string (⟨#[c, s]⟩ ++ d), .int .i64 0]) ∧ Below w.heap.size w w' := by
  unfold noteV
  by_cases h0 : c = 0
  · rw [if_pos h0]
    have e0 : (((c.toNat : Nat) : Int) == 0) = true := by rw [h0]; rfl
    clear h0
    generalize c.toNat = x at e0 ⊢
    rcases hfn with rfl | rfl
    · go_enter Try.func15, Try.ntmps15
      go_wp2
      go_ret2
      exact ⟨rfl, by go_grown⟩
    · go_enter Try.func16, Try.ntmps16
      go_wp2
      go_ret2
      exact ⟨rfl, by go_grown⟩
  · rw [if_neg h0]
    have e0 : (((c.toNat : Nat) : Int) == 0) = false := by
      rw [beq_eq_false_iff_ne]
      intro h
      apply h0
      have : c.toNat = 0 := by omega
      exact UInt8.toNat_inj.1 this
    by_cases h1 : 4075 < d.size
    · rw [if_pos h1]
      clear h0
      rcases hfn with rfl | rfl
      · go_enter Try.func15, Try.ntmps15
        go_wp2
        all_goals
          go_ret2
          exact ⟨rfl, by go_grown⟩
      · go_enter Try.func16, Try.ntmps16
        go_wp2
        go_ret2
        exact ⟨rfl, by go_grown⟩
    · rw [if_neg h1]
      have hsz : d.size ≤ 4075 := by omega
      have hcv := run_str_list (w.alloc (.cells #[.int .u8 c.toNat, .int .u8 s.toNat, .string d] 30)) [c, s]
      simp only [byteVals, List.map_cons, List.map_nil, List.length_cons, List.length_nil, World.size_alloc] at hcv
      rcases hfn with rfl | rfl
      · go_enter Try.func15, Try.ntmps15
        go_wp2
        go_ret2
        exact ⟨rfl, by go_grown⟩
      · go_enter Try.func16, Try.ntmps16
        go_wp2
        go_ret2
        exact ⟨rfl, by go_grown⟩

end Go.Proofs.Ytpipeilmolmfpaa
