/-
  The best one: best walked. Conditions: sizes.
-/
import Derived.Test.YtoamigfjpcniaaaDeK
import Derived.Laws.CopyOwn
set_option linter.unusedVariables false
set_option linter.unusedSimpArgs false
namespace Go.Proofs.Ytoamigfjpcniaaa
open Go.RowKit Go.MapKept Go.Shelf
open Go.Lib hiding intOf

/-- the first k steps -/
def runK (k : Nat) (xs : List En) : List En := (stepS.take k).foldl (fun l S => S l) xs
theorem runK_succ {k : Nat} {S : List En → List En} (h : stepS[k]? = some S) (xs : List En) : runK (k + 1) xs = S (runK k xs) := by
  unfold runK
  rw [List.take_add_one, h, Option.toList_some, List.foldl_append, List.foldl_cons, List.foldl_nil]
theorem step_cases {k : Nat} {S : List En → List En} (h : stepS[k]? = some S) : (∃ c, S = leastL c) ∨ S = byMedL := by
  have := List.mem_of_getElem? h
  simp only [stepS, List.mem_cons, List.not_mem_nil, or_false] at this
  rcases this with h | h | h | h | h | h | h | h | h | h | h | h <;> first | exact .inl ⟨_, h⟩ | exact .inr h
theorem step_facts {k : Nat} {S : List En → List En} (h : stepS[k]? = some S) (xs : List En) : (∀ z ∈ S xs, z ∈ xs) ∧ (S xs).length ≤ xs.length ∧ (xs ≠ [] → S xs ≠ []) := by
  rcases step_cases h with ⟨c, rfl⟩ | rfl
  · exact ⟨fun z hz => leastL_sub hz, leastL_len, leastL_ne⟩
  · exact ⟨fun z hz => byMedL_sub hz, byMedL_len xs, byMedL_ne⟩
theorem runK_facts (xs : List En) : ∀ k, k ≤ 12 → (∀ z ∈ runK k xs, z ∈ xs) ∧ (runK k xs).length ≤ xs.length ∧ (xs ≠ [] → runK k xs ≠ [])
  | 0, _ => ⟨fun z hz => hz, Nat.le_refl _, fun h => h⟩
  | k + 1, hk => by
    obtain ⟨h1, h2, h3⟩ := runK_facts xs k (by omega)
    have hl : k < stepS.length := hk
    have hS : stepS[k]? = some stepS[k] := List.getElem?_eq_getElem hl
    obtain ⟨g1, g2, g3⟩ := step_facts hS (runK k xs)
    rw [runK_succ hS]
    exact ⟨fun z hz => h1 z (g1 z hz), Nat.le_trans g2 h2, fun h => g3 (h3 h)⟩
/-- which one is best -/
def bestF (xs : List En) : Option En := (runK 12 xs).head?
theorem bestF_some {xs : List En} (h : xs ≠ []) : ∃ y, bestF xs = some y := by
  have := (runK_facts xs 12 (Nat.le_refl _)).2.2 h
  unfold bestF
  cases hr : runK 12 xs with
  | nil => exact absurd hr this
  | cons y ys => exact ⟨y, rfl⟩
theorem bestF_mem {xs : List En} {y : En} (h : bestF xs = some y) : y ∈ xs := by
  unfold bestF at h
  exact (runK_facts xs 12 (Nat.le_refl _)).1 y (List.mem_of_mem_head? (by rw [h]; rfl))

/-- an entry's zero cells -/
def zeroEn : Array Value := #[.int .i64 0, .int .u64 0, .string ⟨#[]⟩, .int .i64 0, .int .u32 0, .int .u32 0, .int .i64 0, .slice none 0 0, .string ⟨#[]⟩, .bool false, .int .u32 0, .bool false, .int .u32 0, .bool false, .int .u32 0, .int .u32 0, .slice none 0 0, .slice none 0 0, .slice none 0 0, .bool false, .int .u32 0, .slice none 0 0, .int .i64 0, .string ⟨#[]⟩, .int .u32 0, .int .u32 0, .string ⟨#[]⟩, .string ⟨#[]⟩, .bool false, .int .i64 0, .int .i64 0]
section
variable {ops : Array Oper} {rest : List Oper} {op : Oper} {a : Act} {w : World} {Q : Exit → Act → World → Prop}
/-- an entry is laid into a box -/
theorem wpList_over_entry {old : Array Value} {g : Nat} (hgd : op.guard = none) (x y : Operand) (ho : op.op = .store 79 x y) (hx : a.eval x = .pointer (some ⟨g, 0, none⟩)) (e : En) (hy : a.eval y = .agg e.cs)
    (hold : old.size = 31) (hg : CellsAt w g old 79) (h1 : ∀ u ∈ e.cs.toList, u.oneCell' = true) (h : wpList Try.prog ops Q rest (a.put op.dst undef) (w.setRow g e.cs)) : wpList Try.prog ops Q (op :: rest) a w :=
  wpList_store_row hgd 79 x y ho g e.cs hx hy 79 old hg (by rw [entry_size]; rfl) hold (by have := all_oneCell_toArray h1; rwa [Array.toArray_toList] at this) h
end
theorem results_entry {fn : Func} {p : Tmp} (h : fn.results = #[.cell p 79]) (tmps : Array Value) (w : World) (g : Nat) (e : En) (hp : tmps.getD p undef = .pointer (some ⟨g, 0, none⟩)) (hg : CellsAt w g e.cs 79) :
    (results fn tmps).run Try.prog w = .ok e.v w := by
  obtain ⟨fs, hu⟩ := entry_under
  exact results_cell_row h tmps w g 79 e.cs (0, 0) _ hp hg hu rfl (by rw [entry_size]; rfl)

set_option maxRecDepth 100000 in
set_option maxHeartbeats 4000000 in
theorem best_any (A : Option Addr) (cap : Nat) (xs : List En) (y : En) (w : World) (h : EsAt w A cap xs) (hxs : xs.length ≤ 1000000) (hy : bestF xs = some y) :
    Calls Try.prog 34 #[.slice A xs.length cap] w fun e w' => e = .returned y.v ∧ Below w.heap.size w w' := by
  have HE := Lib.hid h
  have HY := Lib.hid hy
  have HS := Lib.hid steps_any
  clear h hy
  go_enter Try.func34, Try.ntmps34
  go_wp2_with fail
  change Calls _ _ _ (w.alloc (.cells zeroEn 79)) _
  have HC0 : Hid (CellsAt (w.alloc (.cells zeroEn 79)) w.heap.size zeroEn 79) := CellsAt.new _ _ _
  have HB0 : Hid (Below w.heap.size w (w.alloc (.cells zeroEn 79))) := (Below.refl _ _).alloc (Nat.le_refl _) _
  refine (HS.out _).mono ?_
  rintro e w1 ⟨b, rfl, hb, hbl, hst⟩
  have HB1 : Hid (Below w.heap.size w w1) := HB0.out.trans (hb.mono (by simp))
  have HC1 : Hid (CellsAt w1 w.heap.size zeroEn 79) := HC0.out.below hb (by simp)
  have HST := Lib.hid hst
  have hs1 : w.heap.size + 1 ≤ w1.heap.size := by have := hb.size; simp at this; omega
  clear hb hst HS HC0 HB0
  go_wp2_with fail
  go_loopw [0, 7] (fun v i wr => ∃ k : Nat, k ≤ 12 ∧ i = .int .i64 k ∧ Hid (∃ A c, v = .slice A (runK k xs).length c ∧ EsAt wr A c (runK k xs)) ∧ Hid (Below w1.heap.size w1 wr)) (fun _ i _ => 13 - (intOf i).toNat)
  case atStart => exact ⟨0, by omega, rfl, ⟨A, cap, rfl, HE.out.below HB1.out (Nat.le_refl _)⟩, Below.refl _ _⟩
  case round =>
    obtain ⟨k, hk, rfl, HV, HB⟩ := hrel
    obtain ⟨A2, cap2, rfl, hv⟩ := HV.out
    have HV2 := Lib.hid hv
    obtain ⟨f1, f2, f3⟩ := runK_facts xs k hk
    have HF1 := Lib.hid f1
    have hs2 := HB.out.size
    clear hv HV f1 f3
    by_cases hlt : k < 12
    · have hl : k < stepS.length := hlt
      have hS : stepS[k]? = some stepS[k] := List.getElem?_eq_getElem hl
      generalize stepS[k] = S at hS
      obtain ⟨f, hf, hok⟩ := HST.out k S hS
      have hf2 := (HB.out.cell (p := ⟨b, k, none⟩) hbl).trans hf
      obtain ⟨F, C, rfl, he, hcall⟩ := hok.below HB.out
      have HR := Lib.hid (runK_succ hS xs)
      have HSF := Lib.hid (step_facts hS (runK k xs))
      have HEN := Lib.hid he
      have HCL := Lib.hid (hcall wr A2 cap2 (runK k xs) (Below.refl _ _) HV2.out (Nat.le_trans f2 hxs))
      clear hf hok he hcall hS hl
      generalize runK k xs = ys at *
      go_wp2_with fail
      rw [HEN.out, Oper.upon_enter]
      refine HCL.out.mono ?_
      rintro e w2 ⟨v2, rfl, hv2, hb2⟩
      have hokz : ∀ z ∈ S ys, PtOk w2 z.p := fun z hz => (HV2.out.ok z (HSF.out.1 z hz)).below hb2 (Nat.le_refl _)
      obtain ⟨A3, cap3, rfl, hv3⟩ := hv2.at_ hokz
      have HV3 := Lib.hid hv3
      have HB2 := Lib.hid hb2
      clear hv2 hb2 hokz hv3
      go_wp2_with fail
      exact ⟨⟨k + 1, by omega, by go_num, ⟨A3, cap3, by rw [HR.out], by rw [HR.out]; exact HV3.out⟩, HB.out.trans (HB2.out.mono hs2)⟩, by simp [intOf]; omega⟩
    · obtain rfl : k = 12 := by omega
      have hy2 : (runK 12 xs).head? = some y := HY.out
      generalize runK 12 xs = ys at *
      cases ys with
      | nil => cases hy2
      | cons y0 ys =>
        obtain rfl : y0 = y := Option.some.inj hy2
        obtain ⟨g, off, rfl, hg, hr⟩ := EsAt.at_ (i := 0) (x := y0) HV2.out rfl
        have hlen := HV2.out.len
        rw [List.length_cons] at *
        have HC2 : Hid (CellsAt wr w.heap.size zeroEn 79) := HC1.out.below HB.out (by omega)
        have HR := Lib.hid hr
        have HONE := Lib.hid (PtOk.ones (HE.out.ok y0 (HF1.out y0 (by simp))))
        have HBW : Hid (Below w.heap.size w (wr.setRow w.heap.size y0.cs)) := Go.below_setRow (HB1.out.trans (HB.out.mono (by omega))) (Nat.le_refl _) _
        have HCS : Hid (CellsAt (wr.setRow w.heap.size y0.cs) w.heap.size y0.cs 79) := setRow_heap wr w.heap.size _ _ _ _ HC2.out
        clear hr hy2 HF1 HB1 HB HC1 HST HY HE HV2
        go_wp2_with (with_reducible show wpList _ _ _ (_ :: _) _ _; first | refine wpList_load_entry rfl (.tmp 16) rfl g (off + 0 * 31) rfl y0 HR.out ?_ | refine wpList_over_entry rfl (.tmp 2) (.tmp 17) rfl rfl y0 rfl rfl HC2.out HONE.out ?_)
        refine bodyPost_ret (results_entry rfl _ _ _ _ rfl HCS.out) rfl ?_
        exact ⟨rfl, HBW.out⟩
end Go.Proofs.Ytoamigfjpcniaaa
