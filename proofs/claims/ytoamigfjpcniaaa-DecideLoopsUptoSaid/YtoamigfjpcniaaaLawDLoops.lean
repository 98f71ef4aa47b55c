/-
  DecideLoops: for every path and all numbers the law answers true: the last step. Conditions: what comes in is of bulk at most 1048576 (the second form).
-/
import Derived.Test.YtoamigfjpcniaaaDlF
import Derived.Test.YtoamigfjpcniaaaDlE
import Derived.OpenShut
set_option linter.unusedVariables false
set_option linter.unusedSimpArgs false
namespace Go.Proofs.Ytoamigfjpcniaaa
open Go.RowKit Go.MapKept
open Go.Maps (Keyed)
open Go.ChangeShapes Go.WideShapes Go.ChangeAt

set_option maxRecDepth 100000 in
theorem open_two {H : Type} {enc : TypeId × Value → H} {W : World} {held : Bool} {v : Value} {d : DataW H} {ps : List MemPlace} {b0 : Nat} (hval : Value.okWide Try.prog W .any b0 61 v) (h : DataW.Trod enc Try.prog W 0 (fun _ => true) held 61 v d ps) :
    ∃ a b : Int, v = .agg #[.int .u32 a, .int .u32 b] := by
  have hu : Try.prog.underlying 61 = some (.array 2 28) := Try.underlying61
  have hc2 : Try.prog.cellsOf 28 = 1 := by kernel_rfl
  have hc1 : Try.prog.cellsOf 61 = 2 := by kernel_rfl
  have hv : ∃ cs : Array Value, v = .agg cs ∧ cs.size = 2 := by
    simp only [Value.okWide, hu] at hval
    obtain ⟨cs, h1, h2, _⟩ := hval
    exact ⟨cs, h1, by rw [h2, hc1]⟩
  obtain ⟨cs, rfl, hsz⟩ := hv
  obtain ⟨fuel, hf⟩ := h
  obtain ⟨xs, m, _, _, hlen, hxl, hel⟩ := DataW.trod_array hu hf
  have hl : cs.toList.length = 2 := by rw [Array.length_toList, hsz]
  obtain ⟨l⟩ := cs
  match l, hl with
  | [x, y], _ =>
    have f0 := hel 0 (by omega)
    have f1 := hel 1 (by omega)
    change DataW.trod enc Try.prog W 0 (fun _ => true) held m 28 (([x, y].drop (0 * Try.prog.cellsOf 28)).take (Try.prog.cellsOf 28)) = xs[0]? at f0
    change DataW.trod enc Try.prog W 0 (fun _ => true) held m 28 (([x, y].drop (1 * Try.prog.cellsOf 28)).take (Try.prog.cellsOf 28)) = xs[1]? at f1
    simp only [hc2, Nat.zero_mul, Nat.one_mul, List.drop_succ_cons, List.drop_zero, List.take_succ_cons, List.take_zero] at f0 f1
    have x0 : xs[0]? = some (xs[0]'(by rw [hxl]; decide)) := List.getElem?_eq_getElem _
    have x1 : xs[1]? = some (xs[1]'(by rw [hxl]; decide)) := List.getElem?_eq_getElem _
    rw [x0] at f0
    rw [x1] at f1
    obtain ⟨a, rfl, _, _⟩ := isU32 Try.underlying28 f0
    obtain ⟨b, rfl, _, _⟩ := isU32 Try.underlying28 f1
    exact ⟨a, b, rfl⟩
theorem bulk_head {H : Type} {d : DataW H} {l : List (DataW H)} (hk : Rows.uptoSmall H (d :: l) = true) : Rows.uptoBulk d ≤ 1048576 := by
  have h : Rows.uptoBulkAll (d :: l) ≤ 1048576 := of_decide_eq_true hk
  simp only [Rows.uptoBulkAll] at h
  omega

set_option maxRecDepth 100000 in
theorem decideLoops_liftedU (os : Os) (started : os.Started) (H : Type) (enc : TypeId × Value → H) (F : Stop.Interp) :
    ReturnsInHanded {} Try.checked os 6 .any ((Rows.OpenSpec.upto Rows.decideLoopsSpec).pre6 enc Try.prog Try.f6 Rows.decideLoopsUptoRow.domain false) (((Rows.OpenSpec.upto Rows.decideLoopsSpec).at F).post enc Try.prog Try.f6 false true false false) := by
  refine returnsInHanded_of_cond (C := Try.checked) (s := Rows.OpenSpec.upto Rows.decideLoopsSpec) (k := Rows.uptoSmall) rfl own started (by kernel_rfl) Try.func6
    (OpenSpec.witness (enc := enc) (C := Try.checked) (s := Rows.OpenSpec.upto Rows.decideLoopsSpec) (k := Rows.uptoSmall) rfl false ⟨#[], #[.agg #[.int .i64 0, .int .u64 0, .string .empty, .int .i64 0, .int .u32 0, .int .u32 0, .int .i64 0, .slice none 0 0, .string .empty, .bool false, .int .u32 0, .bool false, .int .u32 0, .bool false, .int .u32 0, .int .u32 0, .slice none 0 0, .slice none 0 0, .slice none 0 0, .bool false, .int .u32 0, .slice none 0 0, .int .i64 0, .string .empty, .int .u32 0, .int .u32 0, .string .empty, .string .empty, .bool false], .agg #[.int .u32 0, .int .u32 0], .agg #[.int .u32 0, .int .u32 0]], []⟩ 8 (by kernel_rfl) (by kernel_rfl) (by kernel_rfl)
      (x := ([.agg [.agg [.lit (.int .i64 0), .lit (.int .u64 0), .lit (.string []), .lit (.int .i64 0)], .lit (.int .u32 0), .lit (.int .u32 0), .agg [.lit (.int .i64 0), .nil, .lit (.string []), .lit (.bool false), .lit (.int .u32 0), .lit (.bool false), .lit (.int .u32 0), .lit (.bool false), .lit (.int .u32 0), .lit (.int .u32 0), .nil, .nil, .nil, .lit (.bool false), .lit (.int .u32 0), .nil], .agg [.lit (.int .i64 0), .lit (.string []), .lit (.int .u32 0), .lit (.int .u32 0), .lit (.string []), .lit (.string [])], .lit (.bool false)], .agg [.lit (.int .u32 0), .lit (.int .u32 0)], .agg [.lit (.int .u32 0), .lit (.int .u32 0)]], [], [])) (by kernel_rfl) rfl (by kernel_rfl)) ?_
  intro W base args ds gs before hval0 hW hcnd hk _
  have hval : ∀ (j : Nat) t v, Try.f6.params[j]? = some t → args[j]? = some v → Value.okWide Try.prog W .any base t v := hval0
  have hW' := hW
  obtain ⟨p, q, hA0, hV, rfl, hfz, hnd⟩ := hW
  have hA : DataW.TrodAll enc Try.prog W 0 (fun _ => true) true Try.f6.params.toList args.toList ds p := hA0
  rw [Try.params6] at hA hval
  obtain ⟨v0, vs0, d0, ds0, p0, q0, hargs, rfl, rfl, h0, r0⟩ := trodAll_cons hA
  obtain ⟨v1, vs1, d1, ds1, p1, q1, rfl, rfl, rfl, h1, r1⟩ := trodAll_cons r0
  obtain ⟨v2, vs2, d2, ds2, p2, q2, rfl, rfl, rfl, h2, r2⟩ := trodAll_cons r1
  obtain ⟨rfl, rfl, rfl⟩ := trodAll_nil r2
  obtain rfl : args = #[v0, v1, v2] := by cases args; simp_all
  obtain ⟨rfl, rfl⟩ := trodVars_none hV
  obtain ⟨cs0, rfl, hcz⟩ := okWide_struct Try.underlying38 (hval 0 38 v0 rfl rfl)
  obtain ⟨fu, hfu⟩ := h0
  obtain ⟨pp, hpc, hpo, hpb⟩ := open_path hfu
  have hpv : cs0 = pp.cs := Array.toList_inj.1 hpc
  subst hpv
  obtain ⟨a0, a1, rfl⟩ := open_two (hval 1 61 v1 rfl rfl) h1
  obtain ⟨i0, i1, rfl⟩ := open_two (hval 2 61 v2 rfl rfl) h2
  simp only [List.append_nil] at hk
  have hb1 : Rows.uptoBulk d0 ≤ 1048576 := bulk_head hk
  have hb2 : (flatL pp.segs).length + pp.segs.length ≤ Rows.uptoBulk d0 := hpb
  refine (lawloops_any pp a0 a1 i0 i1 W hpo (by omega) (by omega)).mono fun e W' ⟨he, bel⟩ => ?_
  exact ⟨_, he, law_post laidOut (by kernel_rfl) rfl (by kernel_rfl) Try.underlying4 hW' rfl bel⟩

theorem decideLoops_holdsU : Rows.DecideLoopsUptoSaid :=
  OpenClaim.holds_of_cond 6 Try.f6 rfl rfl rfl rfl rfl rfl rfl ⟨rfl, rfl, rfl, rfl, rfl⟩ rfl rfl rfl rfl rfl (by kernel_rfl) Try.func6 (by kernel_rfl)
    (of_decide_eq_true (by kernel_rfl)) (by unfold Func.isWrapper; first | (rw [if_pos (by decide +kernel)]; kernel_rfl) | (rw [if_neg (by decide +kernel)]; exact ⟨rfl, rfl⟩))
    (fun os started H enc _ F => decideLoops_liftedU os started H enc F)
end Go.Proofs.Ytoamigfjpcniaaa
