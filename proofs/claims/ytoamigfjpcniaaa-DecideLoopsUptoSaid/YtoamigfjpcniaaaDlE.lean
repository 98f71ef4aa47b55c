/-
  Paths that came in. Conditions: none.
-/
import Derived.Test.YtoamigfjpcniaaaDlC
import Derived.Test.YtoamigfjpcniaaaOpenAny
set_option linter.unusedVariables false
set_option linter.unusedSimpArgs false
namespace Go.Proofs.Ytoamigfjpcniaaa
open Go.RowKit Go.MapKept
open Go.ChangeShapes Go.WideShapes Go.ChangeAt Go.Deep

theorem bulk_mem {H : Type} : ∀ {ds : List (DataW H)} {d : DataW H}, d ∈ ds → Rows.uptoBulk d ≤ Rows.uptoBulkAll ds
  | [], d, h => by cases h
  | x :: r, d, h => by
    rcases List.mem_cons.1 h with rfl | h
    · unfold Rows.uptoBulkAll; omega
    · have := bulk_mem h
      unfold Rows.uptoBulkAll
      omega
theorem bulk_pos {H : Type} (d : DataW H) : 1 ≤ Rows.uptoBulk d := by
  cases d with
  | lit l => cases l <;> simp [Rows.uptoBulk]
  | _ => simp [Rows.uptoBulk]
theorem bulk_sum {H : Type} (f : Nat → DataW H) (g : Nat → Nat) : ∀ n, (∀ i, i < n → g i ≤ Rows.uptoBulk (f i)) → ((List.range n).map g).sum ≤ Rows.uptoBulkAll ((List.range n).map f) := by
  have key : ∀ l : List Nat, (∀ i ∈ l, g i ≤ Rows.uptoBulk (f i)) → (l.map g).sum ≤ Rows.uptoBulkAll (l.map f) := by
    intro l
    induction l with
    | nil => intro _; exact Nat.zero_le _
    | cons a r ih =>
      intro h
      have h1 := h a (by simp)
      have h2 := ih (fun i hi => h i (by simp [hi]))
      show g a + (r.map g).sum ≤ Rows.uptoBulk (f a) + Rows.uptoBulkAll (r.map f)
      omega
  intro n h
  exact key _ (fun i hi => h i (List.mem_range.1 hi))
section
variable {H : Type} {enc : TypeId × Value → H} {w : World} {held : Bool}
/-- a slice's elements, wherever it stands -/
theorem slice_elems {P : Program} {t e : TypeId} {C fuel : Nat} {v : Value} {x : DataW H × List MemPlace} (ht : P.underlying t = some (.slice e)) (hC : P.cellsOf e = C) (hpos : 0 < C) (h : DataW.trod enc P w 0 (fun _ => true) held fuel t [v] = some x) :
    ∃ (A : Option Addr) (len cap : Nat) (D : Nat → DataW H), v = .slice A len cap ∧ len ≤ cap ∧ cap ≤ maxLen ∧ ((len = 0 ∧ 1 ≤ Rows.uptoBulk x.1) ∨ Rows.uptoBulkAll ((List.range len).map D) + 1 ≤ Rows.uptoBulk x.1) ∧
      (0 < len → ∃ b off, A = some ⟨b, off, none⟩ ∧ b < w.heap.size ∧ ∀ i, i < len → ∃ (cs : List Value) (n : Nat) (Pl : List MemPlace), cs.length = C ∧ DataW.trod enc P w 0 (fun _ => true) held n e cs = some (D i, Pl) ∧ ∀ j, j < C → w.cell? ⟨b, off + i * C + j, none⟩ = cs[j]?) := by
  subst hC
  rcases open_slice ht h with ⟨hcs, hx⟩ | ⟨a, l, c, m, n, D, Pl, hcs, hb, hl, hm, hmm, hx, hi⟩
  · simp only [List.cons.injEq, and_true] at hcs
    exact ⟨none, 0, 0, fun _ => .nil, hcs, Nat.le_refl _, Nat.zero_le _, .inl ⟨rfl, bulk_pos _⟩, fun h0 => absurd h0 (by omega)⟩
  · simp only [List.cons.injEq, and_true] at hcs
    simp only [if_true] at hmm
    subst hmm
    subst hx
    refine ⟨some a, l, m, D, hcs, hl, hm, .inr ?_, fun hl0 => ?_⟩
    · show _ ≤ Rows.uptoBulk (DataW.slice _ _)
      simp only [Rows.uptoBulk]
      omega
    obtain ⟨b, off, spot⟩ := a
    obtain ⟨cs0, hc0, _⟩ := hi 0 (by omega)
    obtain ⟨_, hcl0, hat0⟩ := World.cells?_some hc0
    have h00 := hat0 0 hpos
    have hv0 : cs0[0]? = some (cs0[0]'(by omega)) := List.getElem?_eq_getElem (by omega)
    rw [hv0] at h00
    have hspot : spot = none := by simpa [Addr.add] using World.cell?_spot h00
    subst hspot
    refine ⟨b, off, rfl, ?_, fun i hil => ?_⟩
    · have := World.block_lt_of_cell? w _ h00
      simpa [Addr.add] using this
    · obtain ⟨cs', hc, ht'⟩ := hi i (by omega)
      obtain ⟨_, hcl, hat⟩ := World.cells?_some hc
      refine ⟨cs', n, Pl i, hcl, ht', fun j hj => ?_⟩
      rw [← hat j hj, add_off, add_off]
set_option maxRecDepth 100000 in
/-- numbers of 32 bits -/
theorem open_u32s {fuel : Nat} {v : Value} {x : DataW H × List MemPlace} (h : DataW.trod enc Try.prog w 0 (fun _ => true) held fuel 30 [v] = some x) :
    ∃ (A : Option Addr) (l : List Nat) (cap : Nat), v = .slice A l.length cap ∧ Rd w A 1 (l.map fun n => [Value.int .u32 (n : Nat)]) ∧ (∀ n ∈ l, n < 4294967296) ∧ l.length ≤ cap ∧ cap ≤ maxLen ∧ l.length ≤ Rows.uptoBulk x.1 := by
  obtain ⟨A, len, cap, D, rfl, h1, h2, h3, h4⟩ := slice_elems Try.underlying30 (C := 1) (by kernel_rfl) (by decide) h
  have key : ∀ n, n ≤ len → ∃ l : List Nat, l.length = n ∧ (∀ x ∈ l, x < 4294967296) ∧ ∀ (b off : Nat), A = some ⟨b, off, none⟩ → ∀ (i x : Nat), l[i]? = some x → w.cell? ⟨b, off + i, none⟩ = some (.int .u32 (x : Nat)) := by
    intro n
    induction n with
    | zero => intro _; exact ⟨[], rfl, fun x hx => by simp at hx, fun b off _ i x hx => by simp at hx⟩
    | succ n ih =>
      intro hn
      obtain ⟨l, hl, hf, hc⟩ := ih (by omega)
      obtain ⟨b, off, hA, hb, hel⟩ := h4 (by omega)
      obtain ⟨cs, m, Pl, hcl, htr, hat⟩ := hel n (by omega)
      match cs, hcl with
      | [u], _ =>
        obtain ⟨z, rfl, z0, z1⟩ := isU32 Try.underlying28 htr
        obtain ⟨z, rfl⟩ := Int.eq_ofNat_of_zero_le z0
        refine ⟨l ++ [z], by simp [hl], fun x hx => ?_, fun b2 off2 hA2 i x hx => ?_⟩
        · rcases List.mem_append.1 hx with hx | hx
          · exact hf x hx
          · simp only [List.mem_singleton] at hx
            omega
        · rcases Nat.lt_or_ge i l.length with hi | hi
          · rw [List.getElem?_append_left hi] at hx
            exact hc b2 off2 hA2 i x hx
          · rw [List.getElem?_append_right hi] at hx
            have h0 : i - l.length = 0 := by
              rcases Nat.eq_zero_or_pos (i - l.length) with h | h
              · exact h
              · rw [List.getElem?_eq_none (by rw [List.length_singleton]; omega)] at hx; cases hx
            rw [h0] at hx
            obtain rfl : z = x := Option.some.inj hx
            rw [hA] at hA2
            simp only [Option.some.injEq, Addr.mk.injEq, and_true] at hA2
            obtain ⟨rfl, rfl⟩ := hA2
            have hin : i = n := by omega
            subst hin
            have := hat 0 (by omega)
            rw [Nat.mul_one, Nat.add_zero] at this
            exact this
  obtain ⟨l, hl, hf, hc⟩ := key len (Nat.le_refl _)
  refine ⟨A, l, cap, by rw [hl], fun h0 => ?_, hf, by omega, h2, ?_⟩
  · rw [List.length_map] at h0
    obtain ⟨b, off, hA, hb, _⟩ := h4 (by omega)
    refine ⟨b, off, hA, hb, fun i cs hi j u hu => ?_⟩
    rw [List.getElem?_map] at hi
    cases hx : l[i]? with
    | none => rw [hx] at hi; cases hi
    | some x =>
      rw [hx] at hi
      obtain rfl : [Value.int .u32 (x : Nat)] = cs := Option.some.inj hi
      match j, hu with
      | 0, hu =>
        rw [show off + i * 1 + 0 = off + i by omega, hc b off hA i x hx]
        exact hu
      | j + 1, hu => cases hu
  · rw [hl]
    rcases h3 with ⟨h5, h6⟩ | h5
    · omega
    · have := bulk_sum D (fun _ => 1) len (fun i _ => bulk_pos _)
      have e : ∀ n : Nat, ((List.range n).map fun _ => 1).sum = n := by
        intro n
        induction n with
        | zero => rfl
        | succ n ih => rw [List.range_succ, List.map_append, List.sum_append, ih]; rfl
      have e2 := e len
      omega
set_option maxRecDepth 100000 in
/-- a segment's cells -/
theorem open_seg {fuel : Nat} {cs : List Value} {x : DataW H × List MemPlace} (h : DataW.trod enc Try.prog w 0 (fun _ => true) held fuel 84 cs = some x) : ∃ s : Sg, cs = s.cs ∧ SgOk w s ∧ s.as_.length + 1 ≤ Rows.uptoBulk x.1 := by
  obtain ⟨xs, m, _, rfl, hlen, hxl, hf⟩ := DataW.trod_struct Try.underlying84 h
  have hc1 : Try.prog.cellsOf 84 = 2 := by kernel_rfl
  have hc2 : Try.prog.cellsOf 3 = 1 := by kernel_rfl
  have hc3 : Try.prog.cellsOf 30 = 1 := by kernel_rfl
  rw [hc1] at hlen
  match cs, hlen with
  | [a, b], _ =>
    have f0 := hf 0 _ rfl
    have f1 := hf 1 _ rfl
    change DataW.trod enc Try.prog w 0 (fun _ => true) held m 3 (([a, b].drop 0).take (Try.prog.cellsOf 3)) = xs[0]? at f0
    change DataW.trod enc Try.prog w 0 (fun _ => true) held m 30 (([a, b].drop 1).take (Try.prog.cellsOf 30)) = xs[1]? at f1
    simp only [hc2, hc3, List.drop_succ_cons, List.drop_zero, List.take_succ_cons, List.take_zero] at f0 f1
    have x0 : xs[0]? = some (xs[0]'(by rw [hxl]; decide)) := List.getElem?_eq_getElem _
    have x1 : xs[1]? = some (xs[1]'(by rw [hxl]; decide)) := List.getElem?_eq_getElem _
    rw [x0] at f0
    rw [x1] at f1
    obtain ⟨k, rfl, _, _⟩ := isI64 Try.underlying3 f0
    obtain ⟨A, l, cap, rfl, h1, h2, h3, h4, h5⟩ := open_u32s f1
    refine ⟨⟨k, A, l, cap⟩, rfl, ⟨h1, h3, h4, h2⟩, ?_⟩
    have hm : (xs[1]'(by rw [hxl]; decide)).1 ∈ xs.map (·.1) := List.mem_map.2 ⟨_, List.getElem_mem _, rfl⟩
    have := bulk_mem hm
    show l.length + 1 ≤ Rows.uptoBulk (DataW.agg _)
    simp only [Rows.uptoBulk]
    omega
set_option maxRecDepth 100000 in
/-- segments -/
theorem open_segs {fuel : Nat} {v : Value} {x : DataW H × List MemPlace} (h : DataW.trod enc Try.prog w 0 (fun _ => true) held fuel 29 [v] = some x) :
    ∃ (A : Option Addr) (l : List Sg) (cap : Nat), v = .slice A l.length cap ∧ Rd w A 2 (l.map Sg.cs) ∧ (∀ s ∈ l, SgOk w s) ∧ l.length ≤ cap ∧ cap ≤ maxLen ∧ (flatL l).length + l.length ≤ Rows.uptoBulk x.1 := by
  obtain ⟨A, len, cap, D, rfl, h1, h2, h3, h4⟩ := slice_elems Try.underlying29 (C := 2) (by kernel_rfl) (by decide) h
  have key : ∀ n, n ≤ len → ∃ l : List Sg, l.length = n ∧ (∀ x ∈ l, SgOk w x) ∧ (flatL l).length + n ≤ Rows.uptoBulkAll ((List.range n).map D) ∧ ∀ (b off : Nat), A = some ⟨b, off, none⟩ → ∀ (i : Nat) (x : Sg), l[i]? = some x → ∀ (j : Nat) u, x.cs[j]? = some u → w.cell? ⟨b, off + i * 2 + j, none⟩ = some u := by
    intro n
    induction n with
    | zero => intro _; exact ⟨[], rfl, fun x hx => by simp at hx, Nat.zero_le _, fun b off _ i x hx => by simp at hx⟩
    | succ n ih =>
      intro hn
      obtain ⟨l, hl, hf, hbk, hc⟩ := ih (by omega)
      obtain ⟨b, off, hA, hb, hel⟩ := h4 (by omega)
      obtain ⟨cs, m, Pl, hcl, htr, hat⟩ := hel n (by omega)
      obtain ⟨s, rfl, hso, hsb⟩ := open_seg htr
      refine ⟨l ++ [s], by simp [hl], fun x hx => ?_, ?_, fun b2 off2 hA2 i x hx j u hu => ?_⟩
      · rcases List.mem_append.1 hx with hx | hx
        · exact hf x hx
        · obtain rfl := List.mem_singleton.1 hx
          exact hso
      · have e1 : (flatL (l ++ [s])).length = (flatL l).length + s.as_.length := by
          unfold flatL
          rw [List.flatMap_append, List.length_append, List.flatMap_cons, List.flatMap_nil, List.append_nil]
        have e2 : ∀ (a c : List (DataW H)), Rows.uptoBulkAll (a ++ c) = Rows.uptoBulkAll a + Rows.uptoBulkAll c := by
          intro a c
          induction a with
          | nil => simp [Rows.uptoBulkAll]
          | cons z r ih => rw [List.cons_append, Rows.uptoBulkAll, Rows.uptoBulkAll, ih]; omega
        rw [List.range_succ, List.map_append, e2, e1]
        have e3 : Rows.uptoBulkAll (List.map D [n]) = Rows.uptoBulk (D n) := by simp [Rows.uptoBulkAll]
        rw [e3]
        have hsb2 : s.as_.length + 1 ≤ Rows.uptoBulk (D n) := hsb
        omega
      · rcases Nat.lt_or_ge i l.length with hi | hi
        · rw [List.getElem?_append_left hi] at hx
          exact hc b2 off2 hA2 i x hx j u hu
        · rw [List.getElem?_append_right hi] at hx
          have h0 : i - l.length = 0 := by
            rcases Nat.eq_zero_or_pos (i - l.length) with h | h
            · exact h
            · rw [List.getElem?_eq_none (by rw [List.length_singleton]; omega)] at hx; cases hx
          rw [h0] at hx
          obtain rfl : s = x := Option.some.inj hx
          rw [hA] at hA2
          simp only [Option.some.injEq, Addr.mk.injEq, and_true] at hA2
          obtain ⟨rfl, rfl⟩ := hA2
          have hin : i = n := by omega
          subst hin
          have hj : j < 2 := (List.getElem?_eq_some_iff.1 hu).1
          rw [hat j hj]
          exact hu
  obtain ⟨l, hl, hf, hbk, hc⟩ := key len (Nat.le_refl _)
  refine ⟨A, l, cap, by rw [hl], fun h0 => ?_, hf, by omega, h2, ?_⟩
  · rw [List.length_map] at h0
    obtain ⟨b, off, hA, hb, _⟩ := h4 (by omega)
    refine ⟨b, off, hA, hb, fun i cs hi j u hu => ?_⟩
    rw [List.getElem?_map] at hi
    cases hx : l[i]? with
    | none => rw [hx] at hi; cases hi
    | some x =>
      rw [hx] at hi
      obtain rfl : x.cs = cs := Option.some.inj hi
      exact hc b off hA i x hx j u hu
  · rcases h3 with ⟨h5, h6⟩ | h5
    · have : l = [] := List.eq_nil_of_length_eq_zero (by omega)
      subst this
      exact Nat.zero_le _
    · omega
theorem is_slice {P : Program} {t e : TypeId} {fuel : Nat} {v : Value} {x : DataW H × List MemPlace} (ht : P.underlying t = some (.slice e)) (h : DataW.trod enc P w 0 (fun _ => true) held fuel t [v] = some x) : v.oneCell' = true := by
  rcases open_slice ht h with ⟨hcs, _⟩ | ⟨a, l, c, m, n, D, Pl, hcs, _⟩
  · simp only [List.cons.injEq, and_true] at hcs
    subst hcs
    rfl
  · simp only [List.cons.injEq, and_true] at hcs
    subst hcs
    rfl
theorem list29 {α : Type} {l : List α} (h : l.length = 29) : ∃ c0 c1 c2 c3 c4 c5 c6 c7 c8 c9 c10 c11 c12 c13 c14 c15 c16 c17 c18 c19 c20 c21 c22 c23 c24 c25 c26 c27 c28, l = [c0, c1, c2, c3, c4, c5, c6, c7, c8, c9, c10, c11, c12, c13, c14, c15, c16, c17, c18, c19, c20, c21, c22, c23, c24, c25, c26, c27, c28] := by
  match l, h with
  | [c0, c1, c2, c3, c4, c5, c6, c7, c8, c9, c10, c11, c12, c13, c14, c15, c16, c17, c18, c19, c20, c21, c22, c23, c24, c25, c26, c27, c28], _ => exact ⟨c0, c1, c2, c3, c4, c5, c6, c7, c8, c9, c10, c11, c12, c13, c14, c15, c16, c17, c18, c19, c20, c21, c22, c23, c24, c25, c26, c27, c28, rfl⟩
set_option maxRecDepth 100000 in
/-- a path's cells -/
theorem open_path {fuel : Nat} {cs : List Value} {x : DataW H × List MemPlace} (h : DataW.trod enc Try.prog w 0 (fun _ => true) held fuel 38 cs = some x) : ∃ p : Pt, cs = p.cs.toList ∧ PtOk w p ∧ (flatL p.segs).length + p.segs.length ≤ Rows.uptoBulk x.1 := by
  obtain ⟨xs, m, _, rfl, hlen, hxl, hf⟩ := DataW.trod_struct Try.underlying38 h
  have k_api_Path : Try.prog.cellsOf 38 = 29 := by kernel_rfl
  have k_api_Prefix : Try.prog.cellsOf 27 = 4 := by kernel_rfl
  have k_api_Attrs : Try.prog.cellsOf 34 = 16 := by kernel_rfl
  have k_api_Source : Try.prog.cellsOf 36 = 6 := by kernel_rfl
  have k_int : Try.prog.cellsOf 3 = 1 := by kernel_rfl
  have k_uint64 : Try.prog.cellsOf 25 = 1 := by kernel_rfl
  have k_string : Try.prog.cellsOf 9 = 1 := by kernel_rfl
  have k_uint32 : Try.prog.cellsOf 28 = 1 := by kernel_rfl
  have k_bool : Try.prog.cellsOf 4 = 1 := by kernel_rfl
  have k_sapi_Seg : Try.prog.cellsOf 29 = 1 := by kernel_rfl
  have k_suint32 : Try.prog.cellsOf 30 = 1 := by kernel_rfl
  have k_suint64 : Try.prog.cellsOf 31 = 1 := by kernel_rfl
  have k_sapi_Large : Try.prog.cellsOf 32 = 1 := by kernel_rfl
  rw [k_api_Path] at hlen
  obtain ⟨c0, c1, c2, c3, c4, c5, c6, c7, c8, c9, c10, c11, c12, c13, c14, c15, c16, c17, c18, c19, c20, c21, c22, c23, c24, c25, c26, c27, c28, rfl⟩ := list29 hlen
  have f0 := hf 0 _ rfl
  change DataW.trod enc Try.prog w 0 (fun _ => true) held m 27 (([c0, c1, c2, c3, c4, c5, c6, c7, c8, c9, c10, c11, c12, c13, c14, c15, c16, c17, c18, c19, c20, c21, c22, c23, c24, c25, c26, c27, c28].drop 0).take (Try.prog.cellsOf 27)) = xs[0]? at f0
  simp only [k_api_Path, k_api_Prefix, k_api_Attrs, k_api_Source, k_int, k_uint64, k_string, k_uint32, k_bool, k_sapi_Seg, k_suint32, k_suint64, k_sapi_Large, List.drop_succ_cons, List.drop_zero, List.take_succ_cons, List.take_zero] at f0
  have e0 : xs[0]? = some (xs[0]'(by rw [hxl]; decide)) := List.getElem?_eq_getElem _
  rw [e0] at f0
  have f1 := hf 1 _ rfl
  change DataW.trod enc Try.prog w 0 (fun _ => true) held m 28 (([c0, c1, c2, c3, c4, c5, c6, c7, c8, c9, c10, c11, c12, c13, c14, c15, c16, c17, c18, c19, c20, c21, c22, c23, c24, c25, c26, c27, c28].drop 4).take (Try.prog.cellsOf 28)) = xs[1]? at f1
  simp only [k_api_Path, k_api_Prefix, k_api_Attrs, k_api_Source, k_int, k_uint64, k_string, k_uint32, k_bool, k_sapi_Seg, k_suint32, k_suint64, k_sapi_Large, List.drop_succ_cons, List.drop_zero, List.take_succ_cons, List.take_zero] at f1
  have e1 : xs[1]? = some (xs[1]'(by rw [hxl]; decide)) := List.getElem?_eq_getElem _
  rw [e1] at f1
  have f2 := hf 2 _ rfl
  change DataW.trod enc Try.prog w 0 (fun _ => true) held m 28 (([c0, c1, c2, c3, c4, c5, c6, c7, c8, c9, c10, c11, c12, c13, c14, c15, c16, c17, c18, c19, c20, c21, c22, c23, c24, c25, c26, c27, c28].drop 5).take (Try.prog.cellsOf 28)) = xs[2]? at f2
  simp only [k_api_Path, k_api_Prefix, k_api_Attrs, k_api_Source, k_int, k_uint64, k_string, k_uint32, k_bool, k_sapi_Seg, k_suint32, k_suint64, k_sapi_Large, List.drop_succ_cons, List.drop_zero, List.take_succ_cons, List.take_zero] at f2
  have e2 : xs[2]? = some (xs[2]'(by rw [hxl]; decide)) := List.getElem?_eq_getElem _
  rw [e2] at f2
  have f3 := hf 3 _ rfl
  change DataW.trod enc Try.prog w 0 (fun _ => true) held m 34 (([c0, c1, c2, c3, c4, c5, c6, c7, c8, c9, c10, c11, c12, c13, c14, c15, c16, c17, c18, c19, c20, c21, c22, c23, c24, c25, c26, c27, c28].drop 6).take (Try.prog.cellsOf 34)) = xs[3]? at f3
  simp only [k_api_Path, k_api_Prefix, k_api_Attrs, k_api_Source, k_int, k_uint64, k_string, k_uint32, k_bool, k_sapi_Seg, k_suint32, k_suint64, k_sapi_Large, List.drop_succ_cons, List.drop_zero, List.take_succ_cons, List.take_zero] at f3
  have e3 : xs[3]? = some (xs[3]'(by rw [hxl]; decide)) := List.getElem?_eq_getElem _
  rw [e3] at f3
  have f4 := hf 4 _ rfl
  change DataW.trod enc Try.prog w 0 (fun _ => true) held m 36 (([c0, c1, c2, c3, c4, c5, c6, c7, c8, c9, c10, c11, c12, c13, c14, c15, c16, c17, c18, c19, c20, c21, c22, c23, c24, c25, c26, c27, c28].drop 22).take (Try.prog.cellsOf 36)) = xs[4]? at f4
  simp only [k_api_Path, k_api_Prefix, k_api_Attrs, k_api_Source, k_int, k_uint64, k_string, k_uint32, k_bool, k_sapi_Seg, k_suint32, k_suint64, k_sapi_Large, List.drop_succ_cons, List.drop_zero, List.take_succ_cons, List.take_zero] at f4
  have e4 : xs[4]? = some (xs[4]'(by rw [hxl]; decide)) := List.getElem?_eq_getElem _
  rw [e4] at f4
  have f5 := hf 5 _ rfl
  change DataW.trod enc Try.prog w 0 (fun _ => true) held m 4 (([c0, c1, c2, c3, c4, c5, c6, c7, c8, c9, c10, c11, c12, c13, c14, c15, c16, c17, c18, c19, c20, c21, c22, c23, c24, c25, c26, c27, c28].drop 28).take (Try.prog.cellsOf 4)) = xs[5]? at f5
  simp only [k_api_Path, k_api_Prefix, k_api_Attrs, k_api_Source, k_int, k_uint64, k_string, k_uint32, k_bool, k_sapi_Seg, k_suint32, k_suint64, k_sapi_Large, List.drop_succ_cons, List.drop_zero, List.take_succ_cons, List.take_zero] at f5
  have e5 : xs[5]? = some (xs[5]'(by rw [hxl]; decide)) := List.getElem?_eq_getElem _
  rw [e5] at f5
  obtain ⟨xPrefix, mPrefix, _, yPrefix, _, lPrefix, hPrefix⟩ := DataW.trod_struct Try.underlying27 f0
  have gPrefix0 := hPrefix 0 _ rfl
  change DataW.trod enc Try.prog w 0 (fun _ => true) held mPrefix 3 (([c0, c1, c2, c3].drop 0).take (Try.prog.cellsOf 3)) = xPrefix[0]? at gPrefix0
  simp only [k_api_Path, k_api_Prefix, k_api_Attrs, k_api_Source, k_int, k_uint64, k_string, k_uint32, k_bool, k_sapi_Seg, k_suint32, k_suint64, k_sapi_Large, List.drop_succ_cons, List.drop_zero, List.take_succ_cons, List.take_zero] at gPrefix0
  have qPrefix0 : xPrefix[0]? = some (xPrefix[0]'(by rw [lPrefix]; decide)) := List.getElem?_eq_getElem _
  rw [qPrefix0] at gPrefix0
  have gPrefix1 := hPrefix 1 _ rfl
  change DataW.trod enc Try.prog w 0 (fun _ => true) held mPrefix 25 (([c0, c1, c2, c3].drop 1).take (Try.prog.cellsOf 25)) = xPrefix[1]? at gPrefix1
  simp only [k_api_Path, k_api_Prefix, k_api_Attrs, k_api_Source, k_int, k_uint64, k_string, k_uint32, k_bool, k_sapi_Seg, k_suint32, k_suint64, k_sapi_Large, List.drop_succ_cons, List.drop_zero, List.take_succ_cons, List.take_zero] at gPrefix1
  have qPrefix1 : xPrefix[1]? = some (xPrefix[1]'(by rw [lPrefix]; decide)) := List.getElem?_eq_getElem _
  rw [qPrefix1] at gPrefix1
  have gPrefix2 := hPrefix 2 _ rfl
  change DataW.trod enc Try.prog w 0 (fun _ => true) held mPrefix 9 (([c0, c1, c2, c3].drop 2).take (Try.prog.cellsOf 9)) = xPrefix[2]? at gPrefix2
  simp only [k_api_Path, k_api_Prefix, k_api_Attrs, k_api_Source, k_int, k_uint64, k_string, k_uint32, k_bool, k_sapi_Seg, k_suint32, k_suint64, k_sapi_Large, List.drop_succ_cons, List.drop_zero, List.take_succ_cons, List.take_zero] at gPrefix2
  have qPrefix2 : xPrefix[2]? = some (xPrefix[2]'(by rw [lPrefix]; decide)) := List.getElem?_eq_getElem _
  rw [qPrefix2] at gPrefix2
  have gPrefix3 := hPrefix 3 _ rfl
  change DataW.trod enc Try.prog w 0 (fun _ => true) held mPrefix 3 (([c0, c1, c2, c3].drop 3).take (Try.prog.cellsOf 3)) = xPrefix[3]? at gPrefix3
  simp only [k_api_Path, k_api_Prefix, k_api_Attrs, k_api_Source, k_int, k_uint64, k_string, k_uint32, k_bool, k_sapi_Seg, k_suint32, k_suint64, k_sapi_Large, List.drop_succ_cons, List.drop_zero, List.take_succ_cons, List.take_zero] at gPrefix3
  have qPrefix3 : xPrefix[3]? = some (xPrefix[3]'(by rw [lPrefix]; decide)) := List.getElem?_eq_getElem _
  rw [qPrefix3] at gPrefix3
  obtain ⟨v0, rfl, _, _⟩ := isI64 Try.underlying3 gPrefix0
  obtain ⟨v1, rfl, _, _⟩ := isU64 Try.underlying25 gPrefix1
  obtain ⟨v2, rfl, z_v2⟩ := isStr Try.underlying9 gPrefix2
  obtain ⟨v3, rfl, _, _⟩ := isI64 Try.underlying3 gPrefix3
  obtain ⟨v4, rfl, _, _⟩ := isU32 Try.underlying28 f1
  obtain ⟨v5, rfl, _, _⟩ := isU32 Try.underlying28 f2
  obtain ⟨xAttrs, mAttrs, _, yAttrs, _, lAttrs, hAttrs⟩ := DataW.trod_struct Try.underlying34 f3
  have gAttrs0 := hAttrs 0 _ rfl
  change DataW.trod enc Try.prog w 0 (fun _ => true) held mAttrs 3 (([c6, c7, c8, c9, c10, c11, c12, c13, c14, c15, c16, c17, c18, c19, c20, c21].drop 0).take (Try.prog.cellsOf 3)) = xAttrs[0]? at gAttrs0
  simp only [k_api_Path, k_api_Prefix, k_api_Attrs, k_api_Source, k_int, k_uint64, k_string, k_uint32, k_bool, k_sapi_Seg, k_suint32, k_suint64, k_sapi_Large, List.drop_succ_cons, List.drop_zero, List.take_succ_cons, List.take_zero] at gAttrs0
  have qAttrs0 : xAttrs[0]? = some (xAttrs[0]'(by rw [lAttrs]; decide)) := List.getElem?_eq_getElem _
  rw [qAttrs0] at gAttrs0
  have gAttrs1 := hAttrs 1 _ rfl
  change DataW.trod enc Try.prog w 0 (fun _ => true) held mAttrs 29 (([c6, c7, c8, c9, c10, c11, c12, c13, c14, c15, c16, c17, c18, c19, c20, c21].drop 1).take (Try.prog.cellsOf 29)) = xAttrs[1]? at gAttrs1
  simp only [k_api_Path, k_api_Prefix, k_api_Attrs, k_api_Source, k_int, k_uint64, k_string, k_uint32, k_bool, k_sapi_Seg, k_suint32, k_suint64, k_sapi_Large, List.drop_succ_cons, List.drop_zero, List.take_succ_cons, List.take_zero] at gAttrs1
  have qAttrs1 : xAttrs[1]? = some (xAttrs[1]'(by rw [lAttrs]; decide)) := List.getElem?_eq_getElem _
  rw [qAttrs1] at gAttrs1
  have gAttrs2 := hAttrs 2 _ rfl
  change DataW.trod enc Try.prog w 0 (fun _ => true) held mAttrs 9 (([c6, c7, c8, c9, c10, c11, c12, c13, c14, c15, c16, c17, c18, c19, c20, c21].drop 2).take (Try.prog.cellsOf 9)) = xAttrs[2]? at gAttrs2
  simp only [k_api_Path, k_api_Prefix, k_api_Attrs, k_api_Source, k_int, k_uint64, k_string, k_uint32, k_bool, k_sapi_Seg, k_suint32, k_suint64, k_sapi_Large, List.drop_succ_cons, List.drop_zero, List.take_succ_cons, List.take_zero] at gAttrs2
  have qAttrs2 : xAttrs[2]? = some (xAttrs[2]'(by rw [lAttrs]; decide)) := List.getElem?_eq_getElem _
  rw [qAttrs2] at gAttrs2
  have gAttrs3 := hAttrs 3 _ rfl
  change DataW.trod enc Try.prog w 0 (fun _ => true) held mAttrs 4 (([c6, c7, c8, c9, c10, c11, c12, c13, c14, c15, c16, c17, c18, c19, c20, c21].drop 3).take (Try.prog.cellsOf 4)) = xAttrs[3]? at gAttrs3
  simp only [k_api_Path, k_api_Prefix, k_api_Attrs, k_api_Source, k_int, k_uint64, k_string, k_uint32, k_bool, k_sapi_Seg, k_suint32, k_suint64, k_sapi_Large, List.drop_succ_cons, List.drop_zero, List.take_succ_cons, List.take_zero] at gAttrs3
  have qAttrs3 : xAttrs[3]? = some (xAttrs[3]'(by rw [lAttrs]; decide)) := List.getElem?_eq_getElem _
  rw [qAttrs3] at gAttrs3
  have gAttrs4 := hAttrs 4 _ rfl
  change DataW.trod enc Try.prog w 0 (fun _ => true) held mAttrs 28 (([c6, c7, c8, c9, c10, c11, c12, c13, c14, c15, c16, c17, c18, c19, c20, c21].drop 4).take (Try.prog.cellsOf 28)) = xAttrs[4]? at gAttrs4
  simp only [k_api_Path, k_api_Prefix, k_api_Attrs, k_api_Source, k_int, k_uint64, k_string, k_uint32, k_bool, k_sapi_Seg, k_suint32, k_suint64, k_sapi_Large, List.drop_succ_cons, List.drop_zero, List.take_succ_cons, List.take_zero] at gAttrs4
  have qAttrs4 : xAttrs[4]? = some (xAttrs[4]'(by rw [lAttrs]; decide)) := List.getElem?_eq_getElem _
  rw [qAttrs4] at gAttrs4
  have gAttrs5 := hAttrs 5 _ rfl
  change DataW.trod enc Try.prog w 0 (fun _ => true) held mAttrs 4 (([c6, c7, c8, c9, c10, c11, c12, c13, c14, c15, c16, c17, c18, c19, c20, c21].drop 5).take (Try.prog.cellsOf 4)) = xAttrs[5]? at gAttrs5
  simp only [k_api_Path, k_api_Prefix, k_api_Attrs, k_api_Source, k_int, k_uint64, k_string, k_uint32, k_bool, k_sapi_Seg, k_suint32, k_suint64, k_sapi_Large, List.drop_succ_cons, List.drop_zero, List.take_succ_cons, List.take_zero] at gAttrs5
  have qAttrs5 : xAttrs[5]? = some (xAttrs[5]'(by rw [lAttrs]; decide)) := List.getElem?_eq_getElem _
  rw [qAttrs5] at gAttrs5
  have gAttrs6 := hAttrs 6 _ rfl
  change DataW.trod enc Try.prog w 0 (fun _ => true) held mAttrs 28 (([c6, c7, c8, c9, c10, c11, c12, c13, c14, c15, c16, c17, c18, c19, c20, c21].drop 6).take (Try.prog.cellsOf 28)) = xAttrs[6]? at gAttrs6
  simp only [k_api_Path, k_api_Prefix, k_api_Attrs, k_api_Source, k_int, k_uint64, k_string, k_uint32, k_bool, k_sapi_Seg, k_suint32, k_suint64, k_sapi_Large, List.drop_succ_cons, List.drop_zero, List.take_succ_cons, List.take_zero] at gAttrs6
  have qAttrs6 : xAttrs[6]? = some (xAttrs[6]'(by rw [lAttrs]; decide)) := List.getElem?_eq_getElem _
  rw [qAttrs6] at gAttrs6
  have gAttrs7 := hAttrs 7 _ rfl
  change DataW.trod enc Try.prog w 0 (fun _ => true) held mAttrs 4 (([c6, c7, c8, c9, c10, c11, c12, c13, c14, c15, c16, c17, c18, c19, c20, c21].drop 7).take (Try.prog.cellsOf 4)) = xAttrs[7]? at gAttrs7
  simp only [k_api_Path, k_api_Prefix, k_api_Attrs, k_api_Source, k_int, k_uint64, k_string, k_uint32, k_bool, k_sapi_Seg, k_suint32, k_suint64, k_sapi_Large, List.drop_succ_cons, List.drop_zero, List.take_succ_cons, List.take_zero] at gAttrs7
  have qAttrs7 : xAttrs[7]? = some (xAttrs[7]'(by rw [lAttrs]; decide)) := List.getElem?_eq_getElem _
  rw [qAttrs7] at gAttrs7
  have gAttrs8 := hAttrs 8 _ rfl
  change DataW.trod enc Try.prog w 0 (fun _ => true) held mAttrs 28 (([c6, c7, c8, c9, c10, c11, c12, c13, c14, c15, c16, c17, c18, c19, c20, c21].drop 8).take (Try.prog.cellsOf 28)) = xAttrs[8]? at gAttrs8
  simp only [k_api_Path, k_api_Prefix, k_api_Attrs, k_api_Source, k_int, k_uint64, k_string, k_uint32, k_bool, k_sapi_Seg, k_suint32, k_suint64, k_sapi_Large, List.drop_succ_cons, List.drop_zero, List.take_succ_cons, List.take_zero] at gAttrs8
  have qAttrs8 : xAttrs[8]? = some (xAttrs[8]'(by rw [lAttrs]; decide)) := List.getElem?_eq_getElem _
  rw [qAttrs8] at gAttrs8
  have gAttrs9 := hAttrs 9 _ rfl
  change DataW.trod enc Try.prog w 0 (fun _ => true) held mAttrs 28 (([c6, c7, c8, c9, c10, c11, c12, c13, c14, c15, c16, c17, c18, c19, c20, c21].drop 9).take (Try.prog.cellsOf 28)) = xAttrs[9]? at gAttrs9
  simp only [k_api_Path, k_api_Prefix, k_api_Attrs, k_api_Source, k_int, k_uint64, k_string, k_uint32, k_bool, k_sapi_Seg, k_suint32, k_suint64, k_sapi_Large, List.drop_succ_cons, List.drop_zero, List.take_succ_cons, List.take_zero] at gAttrs9
  have qAttrs9 : xAttrs[9]? = some (xAttrs[9]'(by rw [lAttrs]; decide)) := List.getElem?_eq_getElem _
  rw [qAttrs9] at gAttrs9
  have gAttrs10 := hAttrs 10 _ rfl
  change DataW.trod enc Try.prog w 0 (fun _ => true) held mAttrs 30 (([c6, c7, c8, c9, c10, c11, c12, c13, c14, c15, c16, c17, c18, c19, c20, c21].drop 10).take (Try.prog.cellsOf 30)) = xAttrs[10]? at gAttrs10
  simp only [k_api_Path, k_api_Prefix, k_api_Attrs, k_api_Source, k_int, k_uint64, k_string, k_uint32, k_bool, k_sapi_Seg, k_suint32, k_suint64, k_sapi_Large, List.drop_succ_cons, List.drop_zero, List.take_succ_cons, List.take_zero] at gAttrs10
  have qAttrs10 : xAttrs[10]? = some (xAttrs[10]'(by rw [lAttrs]; decide)) := List.getElem?_eq_getElem _
  rw [qAttrs10] at gAttrs10
  have gAttrs11 := hAttrs 11 _ rfl
  change DataW.trod enc Try.prog w 0 (fun _ => true) held mAttrs 31 (([c6, c7, c8, c9, c10, c11, c12, c13, c14, c15, c16, c17, c18, c19, c20, c21].drop 11).take (Try.prog.cellsOf 31)) = xAttrs[11]? at gAttrs11
  simp only [k_api_Path, k_api_Prefix, k_api_Attrs, k_api_Source, k_int, k_uint64, k_string, k_uint32, k_bool, k_sapi_Seg, k_suint32, k_suint64, k_sapi_Large, List.drop_succ_cons, List.drop_zero, List.take_succ_cons, List.take_zero] at gAttrs11
  have qAttrs11 : xAttrs[11]? = some (xAttrs[11]'(by rw [lAttrs]; decide)) := List.getElem?_eq_getElem _
  rw [qAttrs11] at gAttrs11
  have gAttrs12 := hAttrs 12 _ rfl
  change DataW.trod enc Try.prog w 0 (fun _ => true) held mAttrs 32 (([c6, c7, c8, c9, c10, c11, c12, c13, c14, c15, c16, c17, c18, c19, c20, c21].drop 12).take (Try.prog.cellsOf 32)) = xAttrs[12]? at gAttrs12
  simp only [k_api_Path, k_api_Prefix, k_api_Attrs, k_api_Source, k_int, k_uint64, k_string, k_uint32, k_bool, k_sapi_Seg, k_suint32, k_suint64, k_sapi_Large, List.drop_succ_cons, List.drop_zero, List.take_succ_cons, List.take_zero] at gAttrs12
  have qAttrs12 : xAttrs[12]? = some (xAttrs[12]'(by rw [lAttrs]; decide)) := List.getElem?_eq_getElem _
  rw [qAttrs12] at gAttrs12
  have gAttrs13 := hAttrs 13 _ rfl
  change DataW.trod enc Try.prog w 0 (fun _ => true) held mAttrs 4 (([c6, c7, c8, c9, c10, c11, c12, c13, c14, c15, c16, c17, c18, c19, c20, c21].drop 13).take (Try.prog.cellsOf 4)) = xAttrs[13]? at gAttrs13
  simp only [k_api_Path, k_api_Prefix, k_api_Attrs, k_api_Source, k_int, k_uint64, k_string, k_uint32, k_bool, k_sapi_Seg, k_suint32, k_suint64, k_sapi_Large, List.drop_succ_cons, List.drop_zero, List.take_succ_cons, List.take_zero] at gAttrs13
  have qAttrs13 : xAttrs[13]? = some (xAttrs[13]'(by rw [lAttrs]; decide)) := List.getElem?_eq_getElem _
  rw [qAttrs13] at gAttrs13
  have gAttrs14 := hAttrs 14 _ rfl
  change DataW.trod enc Try.prog w 0 (fun _ => true) held mAttrs 28 (([c6, c7, c8, c9, c10, c11, c12, c13, c14, c15, c16, c17, c18, c19, c20, c21].drop 14).take (Try.prog.cellsOf 28)) = xAttrs[14]? at gAttrs14
  simp only [k_api_Path, k_api_Prefix, k_api_Attrs, k_api_Source, k_int, k_uint64, k_string, k_uint32, k_bool, k_sapi_Seg, k_suint32, k_suint64, k_sapi_Large, List.drop_succ_cons, List.drop_zero, List.take_succ_cons, List.take_zero] at gAttrs14
  have qAttrs14 : xAttrs[14]? = some (xAttrs[14]'(by rw [lAttrs]; decide)) := List.getElem?_eq_getElem _
  rw [qAttrs14] at gAttrs14
  have gAttrs15 := hAttrs 15 _ rfl
  change DataW.trod enc Try.prog w 0 (fun _ => true) held mAttrs 30 (([c6, c7, c8, c9, c10, c11, c12, c13, c14, c15, c16, c17, c18, c19, c20, c21].drop 15).take (Try.prog.cellsOf 30)) = xAttrs[15]? at gAttrs15
  simp only [k_api_Path, k_api_Prefix, k_api_Attrs, k_api_Source, k_int, k_uint64, k_string, k_uint32, k_bool, k_sapi_Seg, k_suint32, k_suint64, k_sapi_Large, List.drop_succ_cons, List.drop_zero, List.take_succ_cons, List.take_zero] at gAttrs15
  have qAttrs15 : xAttrs[15]? = some (xAttrs[15]'(by rw [lAttrs]; decide)) := List.getElem?_eq_getElem _
  rw [qAttrs15] at gAttrs15
  obtain ⟨v6, rfl, _, _⟩ := isI64 Try.underlying3 gAttrs0
  obtain ⟨A_v7, v7, C_v7, rfl, v7_1, v7_2, v7_3, v7_4, v7_5⟩ := open_segs gAttrs1
  obtain ⟨v8, rfl, z_v8⟩ := isStr Try.underlying9 gAttrs2
  obtain ⟨v9, rfl⟩ := isBool Try.underlying4 gAttrs3
  obtain ⟨v10, rfl, _, _⟩ := isU32 Try.underlying28 gAttrs4
  obtain ⟨v11, rfl⟩ := isBool Try.underlying4 gAttrs5
  obtain ⟨v12, rfl, _, _⟩ := isU32 Try.underlying28 gAttrs6
  obtain ⟨v13, rfl⟩ := isBool Try.underlying4 gAttrs7
  obtain ⟨v14, rfl, _, _⟩ := isU32 Try.underlying28 gAttrs8
  obtain ⟨v15, rfl, _, _⟩ := isU32 Try.underlying28 gAttrs9
  have one_v16 := is_slice Try.underlying30 gAttrs10
  have one_v17 := is_slice Try.underlying31 gAttrs11
  have one_v18 := is_slice Try.underlying32 gAttrs12
  obtain ⟨v19, rfl⟩ := isBool Try.underlying4 gAttrs13
  obtain ⟨v20, rfl, _, _⟩ := isU32 Try.underlying28 gAttrs14
  obtain ⟨A_v21, v21, C_v21, rfl, v21_1, v21_2, v21_3, v21_4, v21_5⟩ := open_u32s gAttrs15
  obtain ⟨xSource, mSource, _, ySource, _, lSource, hSource⟩ := DataW.trod_struct Try.underlying36 f4
  have gSource0 := hSource 0 _ rfl
  change DataW.trod enc Try.prog w 0 (fun _ => true) held mSource 3 (([c22, c23, c24, c25, c26, c27].drop 0).take (Try.prog.cellsOf 3)) = xSource[0]? at gSource0
  simp only [k_api_Path, k_api_Prefix, k_api_Attrs, k_api_Source, k_int, k_uint64, k_string, k_uint32, k_bool, k_sapi_Seg, k_suint32, k_suint64, k_sapi_Large, List.drop_succ_cons, List.drop_zero, List.take_succ_cons, List.take_zero] at gSource0
  have qSource0 : xSource[0]? = some (xSource[0]'(by rw [lSource]; decide)) := List.getElem?_eq_getElem _
  rw [qSource0] at gSource0
  have gSource1 := hSource 1 _ rfl
  change DataW.trod enc Try.prog w 0 (fun _ => true) held mSource 9 (([c22, c23, c24, c25, c26, c27].drop 1).take (Try.prog.cellsOf 9)) = xSource[1]? at gSource1
  simp only [k_api_Path, k_api_Prefix, k_api_Attrs, k_api_Source, k_int, k_uint64, k_string, k_uint32, k_bool, k_sapi_Seg, k_suint32, k_suint64, k_sapi_Large, List.drop_succ_cons, List.drop_zero, List.take_succ_cons, List.take_zero] at gSource1
  have qSource1 : xSource[1]? = some (xSource[1]'(by rw [lSource]; decide)) := List.getElem?_eq_getElem _
  rw [qSource1] at gSource1
  have gSource2 := hSource 2 _ rfl
  change DataW.trod enc Try.prog w 0 (fun _ => true) held mSource 28 (([c22, c23, c24, c25, c26, c27].drop 2).take (Try.prog.cellsOf 28)) = xSource[2]? at gSource2
  simp only [k_api_Path, k_api_Prefix, k_api_Attrs, k_api_Source, k_int, k_uint64, k_string, k_uint32, k_bool, k_sapi_Seg, k_suint32, k_suint64, k_sapi_Large, List.drop_succ_cons, List.drop_zero, List.take_succ_cons, List.take_zero] at gSource2
  have qSource2 : xSource[2]? = some (xSource[2]'(by rw [lSource]; decide)) := List.getElem?_eq_getElem _
  rw [qSource2] at gSource2
  have gSource3 := hSource 3 _ rfl
  change DataW.trod enc Try.prog w 0 (fun _ => true) held mSource 28 (([c22, c23, c24, c25, c26, c27].drop 3).take (Try.prog.cellsOf 28)) = xSource[3]? at gSource3
  simp only [k_api_Path, k_api_Prefix, k_api_Attrs, k_api_Source, k_int, k_uint64, k_string, k_uint32, k_bool, k_sapi_Seg, k_suint32, k_suint64, k_sapi_Large, List.drop_succ_cons, List.drop_zero, List.take_succ_cons, List.take_zero] at gSource3
  have qSource3 : xSource[3]? = some (xSource[3]'(by rw [lSource]; decide)) := List.getElem?_eq_getElem _
  rw [qSource3] at gSource3
  have gSource4 := hSource 4 _ rfl
  change DataW.trod enc Try.prog w 0 (fun _ => true) held mSource 9 (([c22, c23, c24, c25, c26, c27].drop 4).take (Try.prog.cellsOf 9)) = xSource[4]? at gSource4
  simp only [k_api_Path, k_api_Prefix, k_api_Attrs, k_api_Source, k_int, k_uint64, k_string, k_uint32, k_bool, k_sapi_Seg, k_suint32, k_suint64, k_sapi_Large, List.drop_succ_cons, List.drop_zero, List.take_succ_cons, List.take_zero] at gSource4
  have qSource4 : xSource[4]? = some (xSource[4]'(by rw [lSource]; decide)) := List.getElem?_eq_getElem _
  rw [qSource4] at gSource4
  have gSource5 := hSource 5 _ rfl
  change DataW.trod enc Try.prog w 0 (fun _ => true) held mSource 9 (([c22, c23, c24, c25, c26, c27].drop 5).take (Try.prog.cellsOf 9)) = xSource[5]? at gSource5
  simp only [k_api_Path, k_api_Prefix, k_api_Attrs, k_api_Source, k_int, k_uint64, k_string, k_uint32, k_bool, k_sapi_Seg, k_suint32, k_suint64, k_sapi_Large, List.drop_succ_cons, List.drop_zero, List.take_succ_cons, List.take_zero] at gSource5
  have qSource5 : xSource[5]? = some (xSource[5]'(by rw [lSource]; decide)) := List.getElem?_eq_getElem _
  rw [qSource5] at gSource5
  obtain ⟨v22, rfl, _, _⟩ := isI64 Try.underlying3 gSource0
  obtain ⟨v23, rfl, z_v23⟩ := isStr Try.underlying9 gSource1
  obtain ⟨v24, rfl, _, _⟩ := isU32 Try.underlying28 gSource2
  obtain ⟨v25, rfl, _, _⟩ := isU32 Try.underlying28 gSource3
  obtain ⟨v26, rfl, z_v26⟩ := isStr Try.underlying9 gSource4
  obtain ⟨v27, rfl, z_v27⟩ := isStr Try.underlying9 gSource5
  obtain ⟨v28, rfl⟩ := isBool Try.underlying4 f5
  refine ⟨⟨v0, v1, v2, v3, v4, v5, v6, A_v7, v7, C_v7, v8, v9, v10, v11, v12, v13, v14, v15, c16, c17, c18, v19, v20, A_v21, v21, C_v21, v22, v23, v24, v25, v26, v27, v28⟩, rfl, ⟨v7_1, v7_2, v7_3, v7_4, v21_3, v21_4, z_v23, z_v26, v21_1, one_v16, one_v17, one_v18⟩, ?_⟩
  have b1 := bulk_mem (ds := xAttrs.map (·.1)) (List.mem_map.2 ⟨_, List.getElem_mem (l := xAttrs) (n := 1) (by rw [lAttrs]; decide), rfl⟩)
  have b2 := bulk_mem (ds := xs.map (·.1)) (List.mem_map.2 ⟨_, List.getElem_mem (l := xs) (n := 3) (by rw [hxl]; decide), rfl⟩)
  have e9 : (xs[3]'(by rw [hxl]; decide)).1 = .agg (xAttrs.map (·.1)) := by rw [yAttrs]
  have e8 : Rows.uptoBulk (xs[3]'(by rw [hxl]; decide)).1 = Rows.uptoBulkAll (xAttrs.map (·.1)) + 1 := by rw [e9]; simp [Rows.uptoBulk]
  show (flatL v7).length + v7.length ≤ Rows.uptoBulk (DataW.agg _)
  simp only [Rows.uptoBulk]
  have b1' : Rows.uptoBulk (xAttrs[1]'(by rw [lAttrs]; decide)).1 ≤ Rows.uptoBulkAll (xAttrs.map (·.1)) := b1
  have b2' : Rows.uptoBulk (xs[3]'(by rw [hxl]; decide)).1 ≤ Rows.uptoBulkAll (xs.map (·.1)) := b2
  omega
end
end Go.Proofs.Ytoamigfjpcniaaa
