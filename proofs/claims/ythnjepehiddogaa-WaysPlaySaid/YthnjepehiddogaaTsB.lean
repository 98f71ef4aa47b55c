/-
  The reference's list of ways; contract of heraldref24.Cost. Conditions: sizes.
-/
import Derived.Test.YthnjepehiddogaaTsA
set_option linter.unusedVariables false
set_option linter.unusedSimpArgs false
namespace Go.Proofs.Ythnjepehiddogaa
open Go.RowKit Go.MapKept

def wyC (y : Tp × Int) : List Value := [.int .i64 y.1.fam, .int .u64 y.1.rd, .string y.1.addr, .int .i64 (y.1.len : Nat), .int .i64 y.2]
def flatW (l : List (Tp × Int)) : List Value := l.flatMap wyC
theorem flatW_length : ∀ l : List (Tp × Int), (flatW l).length = l.length * 5
  | [] => rfl
  | p :: l => by
    have ih := flatW_length l
    unfold flatW at ih ⊢
    rw [List.flatMap_cons, List.length_append, ih]
    simp only [List.length_cons, wyC, List.length_nil]
    omega
theorem flatW_append (l m : List (Tp × Int)) : flatW (l ++ m) = flatW l ++ flatW m := List.flatMap_append
theorem flatW_one (l : List (Tp × Int)) : ∀ u ∈ flatW l, u.oneCell' = true := fun u h => by
  obtain ⟨p, _, hu⟩ := List.mem_flatMap.1 h
  simp only [wyC, List.mem_cons, List.not_mem_nil, or_false] at hu
  rcases hu with rfl | rfl | rfl | rfl | rfl <;> rfl
theorem flatW_at : ∀ (l : List (Tp × Int)) (i : Nat) (x : Tp × Int), l[i]? = some x → ∀ c, c < 5 → (flatW l)[i * 5 + c]? = (wyC x)[c]?
  | [], i, x, h, c, hc => by simp at h
  | p :: l, 0, x, h, c, hc => by
    simp only [List.getElem?_cons_zero, Option.some.injEq] at h
    subst h
    unfold flatW
    rw [List.flatMap_cons, List.getElem?_append_left (by simp [wyC]; omega), Nat.zero_mul, Nat.zero_add]
  | p :: l, i + 1, x, h, c, hc => by
    have ih := flatW_at l i x (by simpa using h) c hc
    unfold flatW at ih ⊢
    rw [List.flatMap_cons, List.getElem?_append_right (by simp [wyC]; omega), ← ih]
    congr 1
    simp only [wyC, List.length_cons, List.length_nil]
    omega
/-- a list of ways in memory -/
def WL (w : World) (base : Nat) (v : Value) (L : List (Tp × Int)) : Prop := OwnM w base 60 5 v L.length (flatW L)
theorem WL.below {w w' : World} {base B : Nat} {v : Value} {L : List (Tp × Int)} (h : WL w base v L) (hb : Below B w w') (hB : w.heap.size ≤ B) : WL w' base v L := OwnM.below h hb hB
theorem WL.at_ {w : World} {base i : Nat} {v : Value} {L : List (Tp × Int)} {y : Tp × Int} (h : WL w base v L) (hi : L[i]? = some y) :
    ∃ g cap, v = .slice (some ⟨g, 0, none⟩) L.length cap ∧ g < w.heap.size ∧ L.length ≤ cap ∧ cap ≤ maxLen ∧ i < L.length ∧
      w.cell? ⟨g, i * 5, none⟩ = some (.int .i64 y.1.fam) ∧ w.cell? ⟨g, i * 5 + 1, none⟩ = some (.int .u64 y.1.rd) ∧ w.cell? ⟨g, i * 5 + 2, none⟩ = some (.string y.1.addr) ∧ w.cell? ⟨g, i * 5 + 3, none⟩ = some (.int .i64 (y.1.len : Nat)) ∧ w.cell? ⟨g, i * 5 + 4, none⟩ = some (.int .i64 y.2) := by
  have hl : i < L.length := (List.getElem?_eq_some_iff.1 hi).1
  obtain ⟨g, cap, rfl, _, hg, hn, hc, hcell, _⟩ := OwnM.cells h (by omega)
  have f := flatW_at L i y hi
  exact ⟨g, cap, rfl, hg, hn, hc, hl, hcell _ _ (f 0 (by omega)), hcell _ _ (f 1 (by omega)), hcell _ _ (f 2 (by omega)), hcell _ _ (f 3 (by omega)), hcell _ _ (f 4 (by omega))⟩
theorem WL.read {w w' : World} {base g cap i : Nat} {L : List (Tp × Int)} {y : Tp × Int} (h : WL w base (.slice (some ⟨g, 0, none⟩) L.length cap) L) (hi : L[i]? = some y) (hb : Below w.heap.size w w') :
    w'.cell? ⟨g, i * 5, none⟩ = some (.int .i64 y.1.fam) ∧ w'.cell? ⟨g, i * 5 + 1, none⟩ = some (.int .u64 y.1.rd) ∧ w'.cell? ⟨g, i * 5 + 2, none⟩ = some (.string y.1.addr) ∧ w'.cell? ⟨g, i * 5 + 3, none⟩ = some (.int .i64 (y.1.len : Nat)) ∧ w'.cell? ⟨g, i * 5 + 4, none⟩ = some (.int .i64 y.2) := by
  obtain ⟨g', cap', e, _, _, _, _, h1⟩ := (h.below hb (Nat.le_refl _)).at_ hi
  simp only [Value.slice.injEq, Option.some.injEq, Addr.mk.injEq] at e
  obtain ⟨⟨rfl, _⟩, _, rfl⟩ := e
  exact h1
def covT (q p : Tp) : Prop := q.fam = p.fam ∧ q.rd = p.rd ∧ cov q p
/-- the best so far -/
def BestI (L : List (Tp × Int)) (p : Tp) (i : Nat) (best : Int) : Prop :=
  (best = -1 ∧ ∀ j y, j < i → L[j]? = some y → ¬ covT y.1 p) ∨ (∃ (j : Nat) (y : Tp × Int), best = (j : Int) ∧ j < i ∧ L[j]? = some y ∧ covT y.1 p ∧ ∀ k z, k < i → L[k]? = some z → covT z.1 p → z.1.len ≤ y.1.len)
theorem BestI.no {L : List (Tp × Int)} {p : Tp} {i : Nat} {best : Int} {y : Tp × Int} (h : BestI L p i best) (hy : L[i]? = some y) (hc : ¬ covT y.1 p) : BestI L p (i + 1) best := by
  rcases h with ⟨rfl, h⟩ | ⟨j, z, e, h1, h2, h3, h4⟩
  · refine Or.inl ⟨rfl, fun j z hj hz => ?_⟩
    by_cases hji : j = i
    · rw [hji, hy] at hz
      cases hz
      exact hc
    · exact h j z (by omega) hz
  · refine Or.inr ⟨j, z, e, by omega, h2, h3, fun k u hk hu hcu => ?_⟩
    by_cases hki : k = i
    · rw [hki, hy] at hu
      cases hu
      exact absurd hcu hc
    · exact h4 k u (by omega) hu hcu
theorem BestI.first {L : List (Tp × Int)} {p : Tp} {i : Nat} {y : Tp × Int} (h : ∀ j y, j < i → L[j]? = some y → ¬ covT y.1 p) (hy : L[i]? = some y) (hc : covT y.1 p) : BestI L p (i + 1) (i : Nat) := by
  refine Or.inr ⟨i, y, rfl, by omega, hy, hc, fun k u hk hu hcu => ?_⟩
  by_cases hki : k = i
  · rw [hki, hy] at hu
    cases hu
    exact Nat.le_refl _
  · exact absurd hcu (h k u (by omega) hu)
theorem BestI.more {L : List (Tp × Int)} {p : Tp} {i : Nat} {y z : Tp × Int} (h : ∀ k u, k < i → L[k]? = some u → covT u.1 p → u.1.len ≤ z.1.len) (hy : L[i]? = some y) (hc : covT y.1 p) (hl : z.1.len < y.1.len) : BestI L p (i + 1) (i : Nat) := by
  refine Or.inr ⟨i, y, rfl, by omega, hy, hc, fun k u hk hu hcu => ?_⟩
  by_cases hki : k = i
  · rw [hki, hy] at hu
    cases hu
    exact Nat.le_refl _
  · have := h k u (by omega) hu hcu
    omega
theorem BestI.less {L : List (Tp × Int)} {p : Tp} {i j : Nat} {y z : Tp × Int} (h1 : j < i) (h2 : L[j]? = some z) (h3 : covT z.1 p) (h : ∀ k u, k < i → L[k]? = some u → covT u.1 p → u.1.len ≤ z.1.len) (hy : L[i]? = some y) (hl : ¬ z.1.len < y.1.len) : BestI L p (i + 1) (j : Nat) := by
  refine Or.inr ⟨j, z, rfl, by omega, h2, h3, fun k u hk hu hcu => ?_⟩
  by_cases hki : k = i
  · rw [hki, hy] at hu
    cases hu
    omega
  · exact h k u (by omega) hu hcu
def LMem (L : List (Tp × Int)) (q : Tp) (x : Int) : Prop := (q, x) ∈ L
theorem LongM.of_none {L : List (Tp × Int)} {p : Tp} (h : ∀ j y, j < L.length → L[j]? = some y → ¬ covT y.1 p) : LongM (LMem L) p 0 false := by
  refine ⟨rfl, fun q y hq h1 h2 h3 => ?_⟩
  obtain ⟨j, hj⟩ := List.getElem?_of_mem hq
  exact h j _ (List.getElem?_eq_some_iff.1 hj).1 hj ⟨h1, h2, h3⟩
theorem LongM.of_best {L : List (Tp × Int)} {p : Tp} {j : Nat} {y : Tp × Int} (hj : L[j]? = some y) (hc : covT y.1 p) (h : ∀ k z, k < L.length → L[k]? = some z → covT z.1 p → z.1.len ≤ y.1.len) : LongM (LMem L) p y.2 true := by
  refine ⟨y.1, List.mem_of_getElem? hj, hc.1, hc.2.1, hc.2.2, fun q z hq h1 h2 h3 => ?_⟩
  obtain ⟨k, hk⟩ := List.getElem?_of_mem hq
  exact h k _ (List.getElem?_eq_some_iff.1 hk).1 hk ⟨h1, h2, h3⟩
set_option maxRecDepth 100000 in
set_option maxHeartbeats 4000000 in
theorem rwhole_any (next : ByteArray) (w : World) : Calls Try.prog 28 #[.string next] w fun e w' => e = .returned (.tuple #[if next.size = 4 then (⟨1, 0, next, 32⟩ : Tp).v else if next.size = 16 then (⟨2, 0, next, 128⟩ : Tp).v else .agg #[.int .i64 0, .int .u64 0, .string ⟨#[]⟩, .int .i64 0], .bool (decide (next.size = 4 ∨ next.size = 16))]) ∧ Below w.heap.size w w' := by
  by_cases s4 : next.size = 4
  · rw [if_pos s4, decide_eq_true (Or.inl s4)]
    have e4 : ((next.size : Int) == 4) = true := by rw [beq_iff_eq]; omega
    clear s4
    go_enter Try.func28, Try.ntmps28
    go_wp2_with fail
    try simp only [Exit.inBlock, Exit.then]
    refine bodyPost_ret (v := .tuple #[(⟨1, 0, next, 32⟩ : Tp).v, .bool true]) (by rw [results_cell_tmp rfl]; go_simp; try rfl) rfl ⟨rfl, ?_⟩
    repeat' (first | with_reducible exact Below.refl _ _ | with_reducible refine Below.setCell ?_ (by first | omega | (simp; omega) | simp) _ | with_reducible refine Below.alloc ?_ (by first | omega | (simp; omega) | simp) _)
  · rw [if_neg s4]
    have e4 : ((next.size : Int) == 4) = false := by rw [beq_eq_false_iff_ne]; omega
    by_cases s16 : next.size = 16
    · rw [if_pos s16, decide_eq_true (Or.inr s16)]
      have e16 : ((next.size : Int) == 16) = true := by rw [beq_iff_eq]; omega
      clear s4 s16
      go_enter Try.func28, Try.ntmps28
      go_wp2_with fail
      try simp only [Exit.inBlock, Exit.then]
      refine bodyPost_ret (v := .tuple #[(⟨2, 0, next, 128⟩ : Tp).v, .bool true]) (by rw [results_cell_tmp rfl]; go_simp; try rfl) rfl ⟨rfl, ?_⟩
      repeat' (first | with_reducible exact Below.refl _ _ | with_reducible refine Below.setCell ?_ (by first | omega | (simp; omega) | simp) _ | with_reducible refine Below.alloc ?_ (by first | omega | (simp; omega) | simp) _)
    · rw [if_neg s16, decide_eq_false (fun h => h.elim s4 s16)]
      have e16 : ((next.size : Int) == 16) = false := by rw [beq_eq_false_iff_ne]; omega
      clear s4 s16
      go_enter Try.func28, Try.ntmps28
      go_wp2_with fail
      try simp only [Exit.inBlock, Exit.then]
      refine bodyPost_ret (v := .tuple #[.agg #[.int .i64 0, .int .u64 0, .string ⟨#[]⟩, .int .i64 0], .bool false]) (by rw [results_cell_tmp rfl]; go_simp; try rfl) rfl ⟨rfl, ?_⟩
      repeat' (first | with_reducible exact Below.refl _ _ | with_reducible refine Below.setCell ?_ (by first | omega | (simp; omega) | simp) _ | with_reducible refine Below.alloc ?_ (by first | omega | (simp; omega) | simp) _)
def RCostPost (w : World) (L : List (Tp × Int)) (next : ByteArray) (e : Ending) (w' : World) : Prop := Below w.heap.size w w' ∧ ∃ x b, e = .returned (.tuple #[.int .i64 x, .bool b]) ∧ CostOf (LMem L) next x b
def RC1Post (w : World) (L : List (Tp × Int)) (p : Tp) (e : Ending) (w' : World) : Prop := Below w.heap.size w w' ∧ ∃ x b, e = .returned (.tuple #[.int .i64 x, .bool b]) ∧ LongM (LMem L) p x b
set_option maxRecDepth 100000 in
set_option maxHeartbeats 8000000 in
theorem rcost_v4 (L : List (Tp × Int)) (next : ByteArray) (base : Nat) (v : Value) (w : World) (h : WL w base v L) (hok : ∀ y ∈ L, y.1.Ok) (hll : L.length ≤ 1000000) (hs : next.size = 4) :
    Calls Try.prog 15 #[v, .string next] w (RC1Post w L (⟨1, 0, next, 32⟩ : Tp)) := by
  have HWH := Lib.hid (fun w => rwhole_any next w)
  rw [if_pos hs, decide_eq_true (Or.inl hs)] at HWH
  have HPO : Hid (Tp.Ok (⟨1, 0, next, 32⟩ : Tp)) := whole_ok4 hs
  have HOK := Lib.hid hok
  have HRC := Lib.hid (fun a w ha => rcov_any a (⟨1, 0, next, 32⟩ : Tp) ha HPO.out w)
  obtain ⟨A, cap, rfl⟩ := OwnM.form h
  have HL := Lib.hid h
  clear h hok hs
  unfold Tp.v at HWH HRC
  dsimp only at HWH HRC
  go_enter Try.func15, Try.ntmps15
  go_wp2_with fail
  refine (HWH.out _).mono ?_
  rintro e w1 ⟨rfl, hb1⟩
  have HB1 := Lib.hid hb1
  clear hb1 HWH
  go_wp2_with fail
  refine wp_name fun W5 hW5 => ?_
  have HQ : Hid (CellsAt W5 w1.heap.size #[.int .i64 1, .int .u64 0, .string next, .int .i64 32] 30) := by
    rw [hW5]
    exact CellsAt.new' _ _ rfl _ _
  have HB5 : Hid (Below w.heap.size w W5) := by
    rw [hW5]
    exact HB1.out.alloc HB1.out.size _
  clear hW5 HB1
  have HL5 : Hid (WL W5 base (.slice A L.length cap) L) := HL.out.below HB5.out (Nat.le_refl _)
  have HI0 : Hid (BestI L (⟨1, 0, next, 32⟩ : Tp) 0 (-1)) := Or.inl ⟨rfl, fun j y hj => absurd hj (by omega)⟩
  go_loopw [9, 8] (fun i bv wr => ∃ (k : Nat) (best : Int), k ≤ L.length ∧ i = .int .i64 k ∧ bv = .int .i64 best ∧ Hid (Below W5.heap.size W5 wr) ∧ Hid (BestI L (⟨1, 0, next, 32⟩ : Tp) k best)) (fun i _ _ => L.length + 1 - (intOf i).toNat)
  case atStart => exact ⟨0, -1, Nat.zero_le _, rfl, rfl, Below.refl _ _, HI0⟩
  case round =>
    obtain ⟨k, best, hk, rfl, rfl, HBr, HBI⟩ := hrel
    by_cases hlt : k < L.length
    · obtain ⟨y, hy⟩ : ∃ y, L[k]? = some y := ⟨L[k], List.getElem?_eq_getElem hlt⟩
      obtain ⟨g, cap2, hv, hgl, hnc, hcm, _, _⟩ := HL5.out.at_ hy
      simp only [Value.slice.injEq] at hv
      obtain ⟨rfl, _, rfl⟩ := hv
      unfold maxLen at hcm
      have HY := Lib.hid hy
      have HYO := Lib.hid (HOK.out y (List.mem_of_getElem? hy))
      clear hy
      obtain ⟨q, c⟩ := y
      by_cases hc : covT q (⟨1, 0, next, 32⟩ : Tp)
      · have HCV := Lib.hid hc
        clear hc
        rcases HBI.out with ⟨rfl, hno⟩ | ⟨j, z, rfl, j1, j2, j3, j4⟩
        · have HB2 : Hid (BestI L (⟨1, 0, next, 32⟩ : Tp) (k + 1) (k : Nat)) := BestI.first hno HY.out HCV.out
          clear hno HBI
          go_wp2_with fail
          refine wp_region_held_drew (S := fun w' => Below wr.heap.size wr w') (by kernel_rfl) (below_drewN (Below.refl _ _) 1) (fun hHeld => ?_)
          refine wpAnyH_take (i := 0) (oi := { dst := some 24, op := Op.move (Operand.tmp 0), type := 38, pos := "ref.go:52", after := #[], guard := none }) (v := ?_) rfl (by kernel_rfl) (by kernel_rfl) (by kernel_rfl) (fun _ _ _ h => h) (Or.inl ⟨by rfl, ?_⟩) hHeld ?_
          rotate_left
          · intro w hSw
            clear hSw
            go_simp
            try with_reducible rfl
          try simp only [Act.put, List.setIfInBounds_toArray, List.set_cons_zero, List.set_cons_succ]
          refine wpAnyH_take (i := 1) (oi := { dst := some 25, op := Op.move (Operand.tmp 9), type := 3, pos := "ref.go:52", after := #[], guard := none }) (v := ?_) rfl (by kernel_rfl) (by kernel_rfl) (by kernel_rfl) (fun _ _ _ h => h) (Or.inl ⟨by rfl, ?_⟩) hHeld ?_
          rotate_left
          · intro w hSw
            clear hSw
            go_simp
            try with_reducible rfl
          try simp only [Act.put, List.setIfInBounds_toArray, List.set_cons_zero, List.set_cons_succ]
          refine wpAnyH_take (i := 2) (oi := { dst := some 26, op := Op.indexAddr 38 (Operand.tmp 24) (Operand.tmp 25), type := 0, pos := "ref.go:52", after := #[{ on := 0, ground := Ground.data }, { on := 1, ground := Ground.data }], guard := none }) (v := ?_) rfl (by kernel_rfl) (by kernel_rfl) (by kernel_rfl) (fun _ _ _ h => h) (Or.inl ⟨by rfl, ?_⟩) hHeld ?_
          rotate_left
          · intro w hSw
            clear hSw
            go_simp
            try with_reducible rfl
          try simp only [Act.put, List.setIfInBounds_toArray, List.set_cons_zero, List.set_cons_succ]
          refine wpAnyH_take (i := 3) (oi := { dst := some 27, op := Op.fieldAddr 60 (Operand.tmp 26) 0, type := 0, pos := "ref.go:52", after := #[{ on := 2, ground := Ground.data }], guard := none }) (v := ?_) rfl (by kernel_rfl) (by kernel_rfl) (by kernel_rfl) (fun _ _ _ h => h) (Or.inl ⟨by rfl, ?_⟩) hHeld ?_
          rotate_left
          · intro w hSw
            clear hSw
            go_simp
            try with_reducible rfl
          try simp only [Act.put, List.setIfInBounds_toArray, List.set_cons_zero, List.set_cons_succ]
          refine wpAnyH_take (i := 4) (oi := { dst := some 28, op := Op.load 30 (Operand.tmp 27), type := 30, pos := "ref.go:52", after := #[{ on := 3, ground := Ground.data }], guard := none }) (v := ?_) rfl (by kernel_rfl) (by kernel_rfl) (by kernel_rfl) (fun _ _ _ h => h) (Or.inl ⟨by rfl, ?_⟩) hHeld ?_
          rotate_left
          · intro w hSw
            obtain ⟨l0, l1, l2, l3, l4⟩ := HL5.out.read HY.out (HBr.out.trans (hSw.mono HBr.out.size))
            obtain ⟨q0, q1, q2, q3, _⟩ := c4_at (HQ.out.below (HBr.out.trans (hSw.mono HBr.out.size)) HQ.out.lt)
            go_simp
            try with_reducible rfl
          try simp only [Act.put, List.setIfInBounds_toArray, List.set_cons_zero, List.set_cons_succ]
          refine wpAnyH_take (i := 5) (oi := { dst := some 29, op := Op.load 30 (Operand.tmp 6), type := 30, pos := "ref.go:52", after := #[], guard := none }) (v := ?_) rfl (by kernel_rfl) (by kernel_rfl) (by kernel_rfl) (fun _ _ _ h => h) (Or.inl ⟨by rfl, ?_⟩) hHeld ?_
          rotate_left
          · intro w hSw
            obtain ⟨l0, l1, l2, l3, l4⟩ := HL5.out.read HY.out (HBr.out.trans (hSw.mono HBr.out.size))
            obtain ⟨q0, q1, q2, q3, _⟩ := c4_at (HQ.out.below (HBr.out.trans (hSw.mono HBr.out.size)) HQ.out.lt)
            go_simp
            try with_reducible rfl
          try simp only [Act.put, List.setIfInBounds_toArray, List.set_cons_zero, List.set_cons_succ]
          refine wpAnyH_ready (rs := [6]) (by kernel_rfl) (by simp) ?_
          refine AllReadyH.cons (o := { dst := some 30, op := Op.call { callee := Callee.value (Operand.func 29), args := #[Operand.tmp 28, Operand.tmp 29], argTypes := #[30, 30] }, type := 4, pos := "ref.go:52", after := #[{ on := 4, ground := Ground.data }, { on := 5, ground := Ground.data }], guard := none }) rfl (fun K hK => ?_) AllReadyH.nil
          go_simp
          refine (HRC.out q _ HYO.out).mono ?_
          rintro e w9 ⟨hb9, r, rfl, hr⟩
          obtain rfl : r = true := hr.2 HCV.out
          have HB9 := Lib.hid hb9
          clear hr hb9
          go_wp2_with fail
          refine hK.out _ _ (hHeld.trans (HB9.out.mono hHeld.size)) (fun hHeld => ?_)
          clear hK K
          try simp only [Act.put, List.setIfInBounds_toArray, List.set_cons_zero, List.set_cons_succ]
          refine wpAnyH_take (i := 7) (oi := { dst := some 31, op := Op.move (Operand.tmp 30), type := 4, pos := "ref.go:52", after := #[{ on := 6, ground := Ground.data }, { on := 6, ground := Ground.chain }], guard := none }) (v := ?_) rfl (by kernel_rfl) (by kernel_rfl) (by kernel_rfl) (fun _ _ _ h => h) (Or.inl ⟨by rfl, ?_⟩) hHeld ?_
          rotate_left
          · intro w hSw
            clear hSw
            go_simp
            try with_reducible rfl
          try simp only [Act.put, List.setIfInBounds_toArray, List.set_cons_zero, List.set_cons_succ]
          refine wpAnyH_take (i := 8) (oi := { dst := some 32, op := Op.move (Operand.tmp 8), type := 3, pos := "ref.go:52", after := #[{ on := 7, ground := Ground.guard }], guard := some (7, true) }) (v := ?_) rfl (by kernel_rfl) (by kernel_rfl) (by kernel_rfl) (fun _ _ _ h => h) (Or.inl ⟨by rfl, ?_⟩) hHeld ?_
          rotate_left
          · intro w hSw
            clear hSw
            go_simp
            try with_reducible rfl
          try simp only [Act.put, List.setIfInBounds_toArray, List.set_cons_zero, List.set_cons_succ]
          refine wpAnyH_take (i := 9) (oi := { dst := some 33, op := Op.binOp BinOp.lss 3 (Operand.tmp 32) (Operand.const (Value.int IntKind.i64 0)) 3, type := 4, pos := "ref.go:52", after := #[{ on := 8, ground := Ground.data }, { on := 7, ground := Ground.guard }], guard := some (7, true) }) (v := ?_) rfl (by kernel_rfl) (by kernel_rfl) (by kernel_rfl) (fun _ _ _ h => h) (Or.inl ⟨by rfl, ?_⟩) hHeld ?_
          rotate_left
          · intro w hSw
            clear hSw
            go_simp
            try with_reducible rfl
          try simp only [Act.put, List.setIfInBounds_toArray, List.set_cons_zero, List.set_cons_succ]
          refine wpAnyH_take (i := 10) (oi := { dst := some 34, op := Op.move (Operand.tmp 33), type := 4, pos := "ref.go:52", after := #[{ on := 9, ground := Ground.data }, { on := 7, ground := Ground.chain }, { on := 7, ground := Ground.guard }], guard := some (7, true) }) (v := ?_) rfl (by kernel_rfl) (by kernel_rfl) (by kernel_rfl) (fun _ _ _ h => h) (Or.inl ⟨by rfl, ?_⟩) hHeld ?_
          rotate_left
          · intro w hSw
            clear hSw
            go_simp
            try with_reducible rfl
          try simp only [Act.put, List.setIfInBounds_toArray, List.set_cons_zero, List.set_cons_succ]
          refine wpAnyH_take (i := 11) (oi := { dst := some 35, op := Op.move (Operand.tmp 0), type := 38, pos := "ref.go:52", after := #[{ on := 10, ground := Ground.guard }], guard := some (10, false) }) (v := undef) rfl (by kernel_rfl) (by kernel_rfl) (by kernel_rfl) (fun _ _ _ h => h) (Or.inr ⟨by rfl, rfl⟩) hHeld ?_
          try simp only [Act.put, List.setIfInBounds_toArray, List.set_cons_zero, List.set_cons_succ]
          refine wpAnyH_take (i := 12) (oi := { dst := some 36, op := Op.move (Operand.tmp 9), type := 3, pos := "ref.go:52", after := #[{ on := 10, ground := Ground.guard }], guard := some (10, false) }) (v := undef) rfl (by kernel_rfl) (by kernel_rfl) (by kernel_rfl) (fun _ _ _ h => h) (Or.inr ⟨by rfl, rfl⟩) hHeld ?_
          try simp only [Act.put, List.setIfInBounds_toArray, List.set_cons_zero, List.set_cons_succ]
          refine wpAnyH_take (i := 13) (oi := { dst := some 37, op := Op.indexAddr 38 (Operand.tmp 35) (Operand.tmp 36), type := 0, pos := "ref.go:52", after := #[{ on := 11, ground := Ground.data }, { on := 12, ground := Ground.data }, { on := 10, ground := Ground.guard }], guard := some (10, false) }) (v := undef) rfl (by kernel_rfl) (by kernel_rfl) (by kernel_rfl) (fun _ _ _ h => h) (Or.inr ⟨by rfl, rfl⟩) hHeld ?_
          try simp only [Act.put, List.setIfInBounds_toArray, List.set_cons_zero, List.set_cons_succ]
          refine wpAnyH_take (i := 14) (oi := { dst := some 38, op := Op.fieldAddr 60 (Operand.tmp 37) 0, type := 0, pos := "ref.go:52", after := #[{ on := 13, ground := Ground.data }, { on := 10, ground := Ground.guard }], guard := some (10, false) }) (v := undef) rfl (by kernel_rfl) (by kernel_rfl) (by kernel_rfl) (fun _ _ _ h => h) (Or.inr ⟨by rfl, rfl⟩) hHeld ?_
          try simp only [Act.put, List.setIfInBounds_toArray, List.set_cons_zero, List.set_cons_succ]
          refine wpAnyH_take (i := 15) (oi := { dst := some 39, op := Op.fieldAddr 30 (Operand.tmp 38) 3, type := 0, pos := "ref.go:52", after := #[{ on := 14, ground := Ground.data }, { on := 10, ground := Ground.guard }], guard := some (10, false) }) (v := undef) rfl (by kernel_rfl) (by kernel_rfl) (by kernel_rfl) (fun _ _ _ h => h) (Or.inr ⟨by rfl, rfl⟩) hHeld ?_
          try simp only [Act.put, List.setIfInBounds_toArray, List.set_cons_zero, List.set_cons_succ]
          refine wpAnyH_take (i := 16) (oi := { dst := some 40, op := Op.load 3 (Operand.tmp 39), type := 3, pos := "ref.go:52", after := #[{ on := 15, ground := Ground.data }, { on := 10, ground := Ground.guard }], guard := some (10, false) }) (v := undef) rfl (by kernel_rfl) (by kernel_rfl) (by kernel_rfl) (fun _ _ _ h => h) (Or.inr ⟨by rfl, rfl⟩) hHeld ?_
          try simp only [Act.put, List.setIfInBounds_toArray, List.set_cons_zero, List.set_cons_succ]
          refine wpAnyH_take (i := 17) (oi := { dst := some 41, op := Op.move (Operand.tmp 0), type := 38, pos := "ref.go:52", after := #[{ on := 10, ground := Ground.guard }], guard := some (10, false) }) (v := undef) rfl (by kernel_rfl) (by kernel_rfl) (by kernel_rfl) (fun _ _ _ h => h) (Or.inr ⟨by rfl, rfl⟩) hHeld ?_
          try simp only [Act.put, List.setIfInBounds_toArray, List.set_cons_zero, List.set_cons_succ]
          refine wpAnyH_take (i := 18) (oi := { dst := some 42, op := Op.move (Operand.tmp 8), type := 3, pos := "ref.go:52", after := #[{ on := 10, ground := Ground.guard }], guard := some (10, false) }) (v := undef) rfl (by kernel_rfl) (by kernel_rfl) (by kernel_rfl) (fun _ _ _ h => h) (Or.inr ⟨by rfl, rfl⟩) hHeld ?_
          try simp only [Act.put, List.setIfInBounds_toArray, List.set_cons_zero, List.set_cons_succ]
          refine wpAnyH_take (i := 19) (oi := { dst := some 43, op := Op.indexAddr 38 (Operand.tmp 41) (Operand.tmp 42), type := 0, pos := "ref.go:52", after := #[{ on := 17, ground := Ground.data }, { on := 18, ground := Ground.data }, { on := 10, ground := Ground.guard }], guard := some (10, false) }) (v := undef) rfl (by kernel_rfl) (by kernel_rfl) (by kernel_rfl) (fun _ _ _ h => h) (Or.inr ⟨by rfl, rfl⟩) hHeld ?_
          try simp only [Act.put, List.setIfInBounds_toArray, List.set_cons_zero, List.set_cons_succ]
          refine wpAnyH_take (i := 20) (oi := { dst := some 44, op := Op.fieldAddr 60 (Operand.tmp 43) 0, type := 0, pos := "ref.go:52", after := #[{ on := 19, ground := Ground.data }, { on := 10, ground := Ground.guard }], guard := some (10, false) }) (v := undef) rfl (by kernel_rfl) (by kernel_rfl) (by kernel_rfl) (fun _ _ _ h => h) (Or.inr ⟨by rfl, rfl⟩) hHeld ?_
          try simp only [Act.put, List.setIfInBounds_toArray, List.set_cons_zero, List.set_cons_succ]
          refine wpAnyH_take (i := 21) (oi := { dst := some 45, op := Op.fieldAddr 30 (Operand.tmp 44) 3, type := 0, pos := "ref.go:52", after := #[{ on := 20, ground := Ground.data }, { on := 10, ground := Ground.guard }], guard := some (10, false) }) (v := undef) rfl (by kernel_rfl) (by kernel_rfl) (by kernel_rfl) (fun _ _ _ h => h) (Or.inr ⟨by rfl, rfl⟩) hHeld ?_
          try simp only [Act.put, List.setIfInBounds_toArray, List.set_cons_zero, List.set_cons_succ]
          refine wpAnyH_take (i := 22) (oi := { dst := some 46, op := Op.load 3 (Operand.tmp 45), type := 3, pos := "ref.go:52", after := #[{ on := 21, ground := Ground.data }, { on := 10, ground := Ground.guard }], guard := some (10, false) }) (v := undef) rfl (by kernel_rfl) (by kernel_rfl) (by kernel_rfl) (fun _ _ _ h => h) (Or.inr ⟨by rfl, rfl⟩) hHeld ?_
          try simp only [Act.put, List.setIfInBounds_toArray, List.set_cons_zero, List.set_cons_succ]
          refine wpAnyH_take (i := 23) (oi := { dst := some 47, op := Op.binOp BinOp.gtr 3 (Operand.tmp 40) (Operand.tmp 46) 3, type := 4, pos := "ref.go:52", after := #[{ on := 16, ground := Ground.data }, { on := 22, ground := Ground.data }, { on := 10, ground := Ground.guard }], guard := some (10, false) }) (v := undef) rfl (by kernel_rfl) (by kernel_rfl) (by kernel_rfl) (fun _ _ _ h => h) (Or.inr ⟨by rfl, rfl⟩) hHeld ?_
          try simp only [Act.put, List.setIfInBounds_toArray, List.set_cons_zero, List.set_cons_succ]
          refine wpAnyH_take (i := 24) (oi := { dst := some 48, op := Op.pick (Operand.tmp 34) (Operand.const (Value.bool true)) (Operand.tmp 47), type := 4, pos := "ref.go:52", after := #[{ on := 10, ground := Ground.data }, { on := 23, ground := Ground.data }, { on := 7, ground := Ground.guard }], guard := some (7, true) }) (v := ?_) rfl (by kernel_rfl) (by kernel_rfl) (by kernel_rfl) (fun _ _ _ h => h) (Or.inl ⟨by rfl, ?_⟩) hHeld ?_
          rotate_left
          · intro w hSw
            clear hSw
            go_simp
            try with_reducible rfl
          try simp only [Act.put, List.setIfInBounds_toArray, List.set_cons_zero, List.set_cons_succ]
          refine wpAnyH_take (i := 25) (oi := { dst := some 49, op := Op.pick (Operand.tmp 31) (Operand.tmp 48) (Operand.const (Value.bool false)), type := 4, pos := "ref.go:52", after := #[{ on := 7, ground := Ground.data }, { on := 24, ground := Ground.data }], guard := none }) (v := ?_) rfl (by kernel_rfl) (by kernel_rfl) (by kernel_rfl) (fun _ _ _ h => h) (Or.inl ⟨by rfl, ?_⟩) hHeld ?_
          rotate_left
          · intro w hSw
            clear hSw
            go_simp
            try with_reducible rfl
          try simp only [Act.put, List.setIfInBounds_toArray, List.set_cons_zero, List.set_cons_succ]
          refine wpAnyH_done (by kernel_rfl) ?_ _
          have HB8 : Hid (Below W5.heap.size W5 w9) := HBr.out.trans (hHeld.mono HBr.out.size)
          clear hHeld HB9
          go_wp2_with fail
          exact ⟨⟨k + 1, (k : Nat), by omega, by go_num, rfl, HB8.out, HB2⟩, by simp [intOf]; omega⟩
        · have hj0 : ¬ (j : Int) < 0 := by omega
          have hjl : j < L.length := by omega
          have HJ2 := Lib.hid j2
          by_cases hl : z.1.len < q.len
          · have HB2 : Hid (BestI L (⟨1, 0, next, 32⟩ : Tp) (k + 1) (k : Nat)) := BestI.more j4 HY.out HCV.out hl
            have HLL := Lib.hid hl
            clear HBI j1 j2 j3 j4 hl
            go_wp2_with fail
            refine wp_region_held_drew (S := fun w' => Below wr.heap.size wr w') (by kernel_rfl) (below_drewN (Below.refl _ _) 1) (fun hHeld => ?_)
            refine wpAnyH_take (i := 0) (oi := { dst := some 24, op := Op.move (Operand.tmp 0), type := 38, pos := "ref.go:52", after := #[], guard := none }) (v := ?_) rfl (by kernel_rfl) (by kernel_rfl) (by kernel_rfl) (fun _ _ _ h => h) (Or.inl ⟨by rfl, ?_⟩) hHeld ?_
            rotate_left
            · intro w hSw
              clear hSw
              go_simp
              try with_reducible rfl
            try simp only [Act.put, List.setIfInBounds_toArray, List.set_cons_zero, List.set_cons_succ]
            refine wpAnyH_take (i := 1) (oi := { dst := some 25, op := Op.move (Operand.tmp 9), type := 3, pos := "ref.go:52", after := #[], guard := none }) (v := ?_) rfl (by kernel_rfl) (by kernel_rfl) (by kernel_rfl) (fun _ _ _ h => h) (Or.inl ⟨by rfl, ?_⟩) hHeld ?_
            rotate_left
            · intro w hSw
              clear hSw
              go_simp
              try with_reducible rfl
            try simp only [Act.put, List.setIfInBounds_toArray, List.set_cons_zero, List.set_cons_succ]
            refine wpAnyH_take (i := 2) (oi := { dst := some 26, op := Op.indexAddr 38 (Operand.tmp 24) (Operand.tmp 25), type := 0, pos := "ref.go:52", after := #[{ on := 0, ground := Ground.data }, { on := 1, ground := Ground.data }], guard := none }) (v := ?_) rfl (by kernel_rfl) (by kernel_rfl) (by kernel_rfl) (fun _ _ _ h => h) (Or.inl ⟨by rfl, ?_⟩) hHeld ?_
            rotate_left
            · intro w hSw
              clear hSw
              go_simp
              try with_reducible rfl
            try simp only [Act.put, List.setIfInBounds_toArray, List.set_cons_zero, List.set_cons_succ]
            refine wpAnyH_take (i := 3) (oi := { dst := some 27, op := Op.fieldAddr 60 (Operand.tmp 26) 0, type := 0, pos := "ref.go:52", after := #[{ on := 2, ground := Ground.data }], guard := none }) (v := ?_) rfl (by kernel_rfl) (by kernel_rfl) (by kernel_rfl) (fun _ _ _ h => h) (Or.inl ⟨by rfl, ?_⟩) hHeld ?_
            rotate_left
            · intro w hSw
              clear hSw
              go_simp
              try with_reducible rfl
            try simp only [Act.put, List.setIfInBounds_toArray, List.set_cons_zero, List.set_cons_succ]
            refine wpAnyH_take (i := 4) (oi := { dst := some 28, op := Op.load 30 (Operand.tmp 27), type := 30, pos := "ref.go:52", after := #[{ on := 3, ground := Ground.data }], guard := none }) (v := ?_) rfl (by kernel_rfl) (by kernel_rfl) (by kernel_rfl) (fun _ _ _ h => h) (Or.inl ⟨by rfl, ?_⟩) hHeld ?_
            rotate_left
            · intro w hSw
              obtain ⟨l0, l1, l2, l3, l4⟩ := HL5.out.read HY.out (HBr.out.trans (hSw.mono HBr.out.size))
              obtain ⟨q0, q1, q2, q3, _⟩ := c4_at (HQ.out.below (HBr.out.trans (hSw.mono HBr.out.size)) HQ.out.lt)
              obtain ⟨m0, m1, m2, m3, m4⟩ := HL5.out.read HJ2.out (HBr.out.trans (hSw.mono HBr.out.size))
              go_simp
              try with_reducible rfl
            try simp only [Act.put, List.setIfInBounds_toArray, List.set_cons_zero, List.set_cons_succ]
            refine wpAnyH_take (i := 5) (oi := { dst := some 29, op := Op.load 30 (Operand.tmp 6), type := 30, pos := "ref.go:52", after := #[], guard := none }) (v := ?_) rfl (by kernel_rfl) (by kernel_rfl) (by kernel_rfl) (fun _ _ _ h => h) (Or.inl ⟨by rfl, ?_⟩) hHeld ?_
            rotate_left
            · intro w hSw
              obtain ⟨l0, l1, l2, l3, l4⟩ := HL5.out.read HY.out (HBr.out.trans (hSw.mono HBr.out.size))
              obtain ⟨q0, q1, q2, q3, _⟩ := c4_at (HQ.out.below (HBr.out.trans (hSw.mono HBr.out.size)) HQ.out.lt)
              obtain ⟨m0, m1, m2, m3, m4⟩ := HL5.out.read HJ2.out (HBr.out.trans (hSw.mono HBr.out.size))
              go_simp
              try with_reducible rfl
            try simp only [Act.put, List.setIfInBounds_toArray, List.set_cons_zero, List.set_cons_succ]
            refine wpAnyH_ready (rs := [6]) (by kernel_rfl) (by simp) ?_
            refine AllReadyH.cons (o := { dst := some 30, op := Op.call { callee := Callee.value (Operand.func 29), args := #[Operand.tmp 28, Operand.tmp 29], argTypes := #[30, 30] }, type := 4, pos := "ref.go:52", after := #[{ on := 4, ground := Ground.data }, { on := 5, ground := Ground.data }], guard := none }) rfl (fun K hK => ?_) AllReadyH.nil
            go_simp
            refine (HRC.out q _ HYO.out).mono ?_
            rintro e w9 ⟨hb9, r, rfl, hr⟩
            obtain rfl : r = true := hr.2 HCV.out
            have HB9 := Lib.hid hb9
            clear hr hb9
            go_wp2_with fail
            refine hK.out _ _ (hHeld.trans (HB9.out.mono hHeld.size)) (fun hHeld => ?_)
            clear hK K
            try simp only [Act.put, List.setIfInBounds_toArray, List.set_cons_zero, List.set_cons_succ]
            refine wpAnyH_take (i := 7) (oi := { dst := some 31, op := Op.move (Operand.tmp 30), type := 4, pos := "ref.go:52", after := #[{ on := 6, ground := Ground.data }, { on := 6, ground := Ground.chain }], guard := none }) (v := ?_) rfl (by kernel_rfl) (by kernel_rfl) (by kernel_rfl) (fun _ _ _ h => h) (Or.inl ⟨by rfl, ?_⟩) hHeld ?_
            rotate_left
            · intro w hSw
              clear hSw
              go_simp
              try with_reducible rfl
            try simp only [Act.put, List.setIfInBounds_toArray, List.set_cons_zero, List.set_cons_succ]
            refine wpAnyH_take (i := 8) (oi := { dst := some 32, op := Op.move (Operand.tmp 8), type := 3, pos := "ref.go:52", after := #[{ on := 7, ground := Ground.guard }], guard := some (7, true) }) (v := ?_) rfl (by kernel_rfl) (by kernel_rfl) (by kernel_rfl) (fun _ _ _ h => h) (Or.inl ⟨by rfl, ?_⟩) hHeld ?_
            rotate_left
            · intro w hSw
              clear hSw
              go_simp
              try with_reducible rfl
            try simp only [Act.put, List.setIfInBounds_toArray, List.set_cons_zero, List.set_cons_succ]
            refine wpAnyH_take (i := 9) (oi := { dst := some 33, op := Op.binOp BinOp.lss 3 (Operand.tmp 32) (Operand.const (Value.int IntKind.i64 0)) 3, type := 4, pos := "ref.go:52", after := #[{ on := 8, ground := Ground.data }, { on := 7, ground := Ground.guard }], guard := some (7, true) }) (v := .bool false) rfl (by kernel_rfl) (by kernel_rfl) (by kernel_rfl) (fun _ _ _ h => h) (Or.inl ⟨by rfl, ?_⟩) hHeld ?_
            · intro w hSw
              clear hSw
              go_simp
              try (first | omega | simp)
            try simp only [Act.put, List.setIfInBounds_toArray, List.set_cons_zero, List.set_cons_succ]
            refine wpAnyH_take (i := 10) (oi := { dst := some 34, op := Op.move (Operand.tmp 33), type := 4, pos := "ref.go:52", after := #[{ on := 9, ground := Ground.data }, { on := 7, ground := Ground.chain }, { on := 7, ground := Ground.guard }], guard := some (7, true) }) (v := ?_) rfl (by kernel_rfl) (by kernel_rfl) (by kernel_rfl) (fun _ _ _ h => h) (Or.inl ⟨by rfl, ?_⟩) hHeld ?_
            rotate_left
            · intro w hSw
              clear hSw
              go_simp
              try with_reducible rfl
            try simp only [Act.put, List.setIfInBounds_toArray, List.set_cons_zero, List.set_cons_succ]
            refine wpAnyH_take (i := 11) (oi := { dst := some 35, op := Op.move (Operand.tmp 0), type := 38, pos := "ref.go:52", after := #[{ on := 10, ground := Ground.guard }], guard := some (10, false) }) (v := ?_) rfl (by kernel_rfl) (by kernel_rfl) (by kernel_rfl) (fun _ _ _ h => h) (Or.inl ⟨by rfl, ?_⟩) hHeld ?_
            rotate_left
            · intro w hSw
              clear hSw
              go_simp
              try with_reducible rfl
            try simp only [Act.put, List.setIfInBounds_toArray, List.set_cons_zero, List.set_cons_succ]
            refine wpAnyH_take (i := 12) (oi := { dst := some 36, op := Op.move (Operand.tmp 9), type := 3, pos := "ref.go:52", after := #[{ on := 10, ground := Ground.guard }], guard := some (10, false) }) (v := ?_) rfl (by kernel_rfl) (by kernel_rfl) (by kernel_rfl) (fun _ _ _ h => h) (Or.inl ⟨by rfl, ?_⟩) hHeld ?_
            rotate_left
            · intro w hSw
              clear hSw
              go_simp
              try with_reducible rfl
            try simp only [Act.put, List.setIfInBounds_toArray, List.set_cons_zero, List.set_cons_succ]
            refine wpAnyH_take (i := 13) (oi := { dst := some 37, op := Op.indexAddr 38 (Operand.tmp 35) (Operand.tmp 36), type := 0, pos := "ref.go:52", after := #[{ on := 11, ground := Ground.data }, { on := 12, ground := Ground.data }, { on := 10, ground := Ground.guard }], guard := some (10, false) }) (v := ?_) rfl (by kernel_rfl) (by kernel_rfl) (by kernel_rfl) (fun _ _ _ h => h) (Or.inl ⟨by rfl, ?_⟩) hHeld ?_
            rotate_left
            · intro w hSw
              clear hSw
              go_simp
              try with_reducible rfl
            try simp only [Act.put, List.setIfInBounds_toArray, List.set_cons_zero, List.set_cons_succ]
            refine wpAnyH_take (i := 14) (oi := { dst := some 38, op := Op.fieldAddr 60 (Operand.tmp 37) 0, type := 0, pos := "ref.go:52", after := #[{ on := 13, ground := Ground.data }, { on := 10, ground := Ground.guard }], guard := some (10, false) }) (v := ?_) rfl (by kernel_rfl) (by kernel_rfl) (by kernel_rfl) (fun _ _ _ h => h) (Or.inl ⟨by rfl, ?_⟩) hHeld ?_
            rotate_left
            · intro w hSw
              clear hSw
              go_simp
              try with_reducible rfl
            try simp only [Act.put, List.setIfInBounds_toArray, List.set_cons_zero, List.set_cons_succ]
            refine wpAnyH_take (i := 15) (oi := { dst := some 39, op := Op.fieldAddr 30 (Operand.tmp 38) 3, type := 0, pos := "ref.go:52", after := #[{ on := 14, ground := Ground.data }, { on := 10, ground := Ground.guard }], guard := some (10, false) }) (v := ?_) rfl (by kernel_rfl) (by kernel_rfl) (by kernel_rfl) (fun _ _ _ h => h) (Or.inl ⟨by rfl, ?_⟩) hHeld ?_
            rotate_left
            · intro w hSw
              clear hSw
              go_simp
              try with_reducible rfl
            try simp only [Act.put, List.setIfInBounds_toArray, List.set_cons_zero, List.set_cons_succ]
            refine wpAnyH_take (i := 16) (oi := { dst := some 40, op := Op.load 3 (Operand.tmp 39), type := 3, pos := "ref.go:52", after := #[{ on := 15, ground := Ground.data }, { on := 10, ground := Ground.guard }], guard := some (10, false) }) (v := ?_) rfl (by kernel_rfl) (by kernel_rfl) (by kernel_rfl) (fun _ _ _ h => h) (Or.inl ⟨by rfl, ?_⟩) hHeld ?_
            rotate_left
            · intro w hSw
              obtain ⟨l0, l1, l2, l3, l4⟩ := HL5.out.read HY.out (HBr.out.trans (hSw.mono HBr.out.size))
              obtain ⟨q0, q1, q2, q3, _⟩ := c4_at (HQ.out.below (HBr.out.trans (hSw.mono HBr.out.size)) HQ.out.lt)
              obtain ⟨m0, m1, m2, m3, m4⟩ := HL5.out.read HJ2.out (HBr.out.trans (hSw.mono HBr.out.size))
              go_simp
              try with_reducible rfl
            try simp only [Act.put, List.setIfInBounds_toArray, List.set_cons_zero, List.set_cons_succ]
            refine wpAnyH_take (i := 17) (oi := { dst := some 41, op := Op.move (Operand.tmp 0), type := 38, pos := "ref.go:52", after := #[{ on := 10, ground := Ground.guard }], guard := some (10, false) }) (v := ?_) rfl (by kernel_rfl) (by kernel_rfl) (by kernel_rfl) (fun _ _ _ h => h) (Or.inl ⟨by rfl, ?_⟩) hHeld ?_
            rotate_left
            · intro w hSw
              clear hSw
              go_simp
              try with_reducible rfl
            try simp only [Act.put, List.setIfInBounds_toArray, List.set_cons_zero, List.set_cons_succ]
            refine wpAnyH_take (i := 18) (oi := { dst := some 42, op := Op.move (Operand.tmp 8), type := 3, pos := "ref.go:52", after := #[{ on := 10, ground := Ground.guard }], guard := some (10, false) }) (v := ?_) rfl (by kernel_rfl) (by kernel_rfl) (by kernel_rfl) (fun _ _ _ h => h) (Or.inl ⟨by rfl, ?_⟩) hHeld ?_
            rotate_left
            · intro w hSw
              clear hSw
              go_simp
              try with_reducible rfl
            try simp only [Act.put, List.setIfInBounds_toArray, List.set_cons_zero, List.set_cons_succ]
            refine wpAnyH_take (i := 19) (oi := { dst := some 43, op := Op.indexAddr 38 (Operand.tmp 41) (Operand.tmp 42), type := 0, pos := "ref.go:52", after := #[{ on := 17, ground := Ground.data }, { on := 18, ground := Ground.data }, { on := 10, ground := Ground.guard }], guard := some (10, false) }) (v := ?_) rfl (by kernel_rfl) (by kernel_rfl) (by kernel_rfl) (fun _ _ _ h => h) (Or.inl ⟨by rfl, ?_⟩) hHeld ?_
            rotate_left
            · intro w hSw
              clear hSw
              go_simp
              try with_reducible rfl
            try simp only [Act.put, List.setIfInBounds_toArray, List.set_cons_zero, List.set_cons_succ]
            refine wpAnyH_take (i := 20) (oi := { dst := some 44, op := Op.fieldAddr 60 (Operand.tmp 43) 0, type := 0, pos := "ref.go:52", after := #[{ on := 19, ground := Ground.data }, { on := 10, ground := Ground.guard }], guard := some (10, false) }) (v := ?_) rfl (by kernel_rfl) (by kernel_rfl) (by kernel_rfl) (fun _ _ _ h => h) (Or.inl ⟨by rfl, ?_⟩) hHeld ?_
            rotate_left
            · intro w hSw
              clear hSw
              go_simp
              try with_reducible rfl
            try simp only [Act.put, List.setIfInBounds_toArray, List.set_cons_zero, List.set_cons_succ]
            refine wpAnyH_take (i := 21) (oi := { dst := some 45, op := Op.fieldAddr 30 (Operand.tmp 44) 3, type := 0, pos := "ref.go:52", after := #[{ on := 20, ground := Ground.data }, { on := 10, ground := Ground.guard }], guard := some (10, false) }) (v := ?_) rfl (by kernel_rfl) (by kernel_rfl) (by kernel_rfl) (fun _ _ _ h => h) (Or.inl ⟨by rfl, ?_⟩) hHeld ?_
            rotate_left
            · intro w hSw
              clear hSw
              go_simp
              try with_reducible rfl
            try simp only [Act.put, List.setIfInBounds_toArray, List.set_cons_zero, List.set_cons_succ]
            refine wpAnyH_take (i := 22) (oi := { dst := some 46, op := Op.load 3 (Operand.tmp 45), type := 3, pos := "ref.go:52", after := #[{ on := 21, ground := Ground.data }, { on := 10, ground := Ground.guard }], guard := some (10, false) }) (v := ?_) rfl (by kernel_rfl) (by kernel_rfl) (by kernel_rfl) (fun _ _ _ h => h) (Or.inl ⟨by rfl, ?_⟩) hHeld ?_
            rotate_left
            · intro w hSw
              obtain ⟨l0, l1, l2, l3, l4⟩ := HL5.out.read HY.out (HBr.out.trans (hSw.mono HBr.out.size))
              obtain ⟨q0, q1, q2, q3, _⟩ := c4_at (HQ.out.below (HBr.out.trans (hSw.mono HBr.out.size)) HQ.out.lt)
              obtain ⟨m0, m1, m2, m3, m4⟩ := HL5.out.read HJ2.out (HBr.out.trans (hSw.mono HBr.out.size))
              go_simp
              try with_reducible rfl
            try simp only [Act.put, List.setIfInBounds_toArray, List.set_cons_zero, List.set_cons_succ]
            refine wpAnyH_take (i := 23) (oi := { dst := some 47, op := Op.binOp BinOp.gtr 3 (Operand.tmp 40) (Operand.tmp 46) 3, type := 4, pos := "ref.go:52", after := #[{ on := 16, ground := Ground.data }, { on := 22, ground := Ground.data }, { on := 10, ground := Ground.guard }], guard := some (10, false) }) (v := .bool true) rfl (by kernel_rfl) (by kernel_rfl) (by kernel_rfl) (fun _ _ _ h => h) (Or.inl ⟨by rfl, ?_⟩) hHeld ?_
            · intro w hSw
              clear hSw
              go_simp
              try (first | exact HLL.out | omega)
            try simp only [Act.put, List.setIfInBounds_toArray, List.set_cons_zero, List.set_cons_succ]
            refine wpAnyH_take (i := 24) (oi := { dst := some 48, op := Op.pick (Operand.tmp 34) (Operand.const (Value.bool true)) (Operand.tmp 47), type := 4, pos := "ref.go:52", after := #[{ on := 10, ground := Ground.data }, { on := 23, ground := Ground.data }, { on := 7, ground := Ground.guard }], guard := some (7, true) }) (v := ?_) rfl (by kernel_rfl) (by kernel_rfl) (by kernel_rfl) (fun _ _ _ h => h) (Or.inl ⟨by rfl, ?_⟩) hHeld ?_
            rotate_left
            · intro w hSw
              clear hSw
              go_simp
              try with_reducible rfl
            try simp only [Act.put, List.setIfInBounds_toArray, List.set_cons_zero, List.set_cons_succ]
            refine wpAnyH_take (i := 25) (oi := { dst := some 49, op := Op.pick (Operand.tmp 31) (Operand.tmp 48) (Operand.const (Value.bool false)), type := 4, pos := "ref.go:52", after := #[{ on := 7, ground := Ground.data }, { on := 24, ground := Ground.data }], guard := none }) (v := ?_) rfl (by kernel_rfl) (by kernel_rfl) (by kernel_rfl) (fun _ _ _ h => h) (Or.inl ⟨by rfl, ?_⟩) hHeld ?_
            rotate_left
            · intro w hSw
              clear hSw
              go_simp
              try with_reducible rfl
            try simp only [Act.put, List.setIfInBounds_toArray, List.set_cons_zero, List.set_cons_succ]
            refine wpAnyH_done (by kernel_rfl) ?_ _
            have HB8 : Hid (Below W5.heap.size W5 w9) := HBr.out.trans (hHeld.mono HBr.out.size)
            clear hHeld HB9
            go_wp2_with fail
            exact ⟨⟨k + 1, (k : Nat), by omega, by go_num, rfl, HB8.out, HB2⟩, by simp [intOf]; omega⟩
          · have HB2 : Hid (BestI L (⟨1, 0, next, 32⟩ : Tp) (k + 1) (j : Nat)) := BestI.less j1 j2 j3 j4 HY.out hl
            have HLL : Hid (q.len ≤ z.1.len) := by
              show q.len ≤ z.1.len
              omega
            clear HBI j1 j2 j3 j4 hl
            go_wp2_with fail
            refine wp_region_held_drew (S := fun w' => Below wr.heap.size wr w') (by kernel_rfl) (below_drewN (Below.refl _ _) 1) (fun hHeld => ?_)
            refine wpAnyH_take (i := 0) (oi := { dst := some 24, op := Op.move (Operand.tmp 0), type := 38, pos := "ref.go:52", after := #[], guard := none }) (v := ?_) rfl (by kernel_rfl) (by kernel_rfl) (by kernel_rfl) (fun _ _ _ h => h) (Or.inl ⟨by rfl, ?_⟩) hHeld ?_
            rotate_left
            · intro w hSw
              clear hSw
              go_simp
              try with_reducible rfl
            try simp only [Act.put, List.setIfInBounds_toArray, List.set_cons_zero, List.set_cons_succ]
            refine wpAnyH_take (i := 1) (oi := { dst := some 25, op := Op.move (Operand.tmp 9), type := 3, pos := "ref.go:52", after := #[], guard := none }) (v := ?_) rfl (by kernel_rfl) (by kernel_rfl) (by kernel_rfl) (fun _ _ _ h => h) (Or.inl ⟨by rfl, ?_⟩) hHeld ?_
            rotate_left
            · intro w hSw
              clear hSw
              go_simp
              try with_reducible rfl
            try simp only [Act.put, List.setIfInBounds_toArray, List.set_cons_zero, List.set_cons_succ]
            refine wpAnyH_take (i := 2) (oi := { dst := some 26, op := Op.indexAddr 38 (Operand.tmp 24) (Operand.tmp 25), type := 0, pos := "ref.go:52", after := #[{ on := 0, ground := Ground.data }, { on := 1, ground := Ground.data }], guard := none }) (v := ?_) rfl (by kernel_rfl) (by kernel_rfl) (by kernel_rfl) (fun _ _ _ h => h) (Or.inl ⟨by rfl, ?_⟩) hHeld ?_
            rotate_left
            · intro w hSw
              clear hSw
              go_simp
              try with_reducible rfl
            try simp only [Act.put, List.setIfInBounds_toArray, List.set_cons_zero, List.set_cons_succ]
            refine wpAnyH_take (i := 3) (oi := { dst := some 27, op := Op.fieldAddr 60 (Operand.tmp 26) 0, type := 0, pos := "ref.go:52", after := #[{ on := 2, ground := Ground.data }], guard := none }) (v := ?_) rfl (by kernel_rfl) (by kernel_rfl) (by kernel_rfl) (fun _ _ _ h => h) (Or.inl ⟨by rfl, ?_⟩) hHeld ?_
            rotate_left
            · intro w hSw
              clear hSw
              go_simp
              try with_reducible rfl
            try simp only [Act.put, List.setIfInBounds_toArray, List.set_cons_zero, List.set_cons_succ]
            refine wpAnyH_take (i := 4) (oi := { dst := some 28, op := Op.load 30 (Operand.tmp 27), type := 30, pos := "ref.go:52", after := #[{ on := 3, ground := Ground.data }], guard := none }) (v := ?_) rfl (by kernel_rfl) (by kernel_rfl) (by kernel_rfl) (fun _ _ _ h => h) (Or.inl ⟨by rfl, ?_⟩) hHeld ?_
            rotate_left
            · intro w hSw
              obtain ⟨l0, l1, l2, l3, l4⟩ := HL5.out.read HY.out (HBr.out.trans (hSw.mono HBr.out.size))
              obtain ⟨q0, q1, q2, q3, _⟩ := c4_at (HQ.out.below (HBr.out.trans (hSw.mono HBr.out.size)) HQ.out.lt)
              obtain ⟨m0, m1, m2, m3, m4⟩ := HL5.out.read HJ2.out (HBr.out.trans (hSw.mono HBr.out.size))
              go_simp
              try with_reducible rfl
            try simp only [Act.put, List.setIfInBounds_toArray, List.set_cons_zero, List.set_cons_succ]
            refine wpAnyH_take (i := 5) (oi := { dst := some 29, op := Op.load 30 (Operand.tmp 6), type := 30, pos := "ref.go:52", after := #[], guard := none }) (v := ?_) rfl (by kernel_rfl) (by kernel_rfl) (by kernel_rfl) (fun _ _ _ h => h) (Or.inl ⟨by rfl, ?_⟩) hHeld ?_
            rotate_left
            · intro w hSw
              obtain ⟨l0, l1, l2, l3, l4⟩ := HL5.out.read HY.out (HBr.out.trans (hSw.mono HBr.out.size))
              obtain ⟨q0, q1, q2, q3, _⟩ := c4_at (HQ.out.below (HBr.out.trans (hSw.mono HBr.out.size)) HQ.out.lt)
              obtain ⟨m0, m1, m2, m3, m4⟩ := HL5.out.read HJ2.out (HBr.out.trans (hSw.mono HBr.out.size))
              go_simp
              try with_reducible rfl
            try simp only [Act.put, List.setIfInBounds_toArray, List.set_cons_zero, List.set_cons_succ]
            refine wpAnyH_ready (rs := [6]) (by kernel_rfl) (by simp) ?_
            refine AllReadyH.cons (o := { dst := some 30, op := Op.call { callee := Callee.value (Operand.func 29), args := #[Operand.tmp 28, Operand.tmp 29], argTypes := #[30, 30] }, type := 4, pos := "ref.go:52", after := #[{ on := 4, ground := Ground.data }, { on := 5, ground := Ground.data }], guard := none }) rfl (fun K hK => ?_) AllReadyH.nil
            go_simp
            refine (HRC.out q _ HYO.out).mono ?_
            rintro e w9 ⟨hb9, r, rfl, hr⟩
            obtain rfl : r = true := hr.2 HCV.out
            have HB9 := Lib.hid hb9
            clear hr hb9
            go_wp2_with fail
            refine hK.out _ _ (hHeld.trans (HB9.out.mono hHeld.size)) (fun hHeld => ?_)
            clear hK K
            try simp only [Act.put, List.setIfInBounds_toArray, List.set_cons_zero, List.set_cons_succ]
            refine wpAnyH_take (i := 7) (oi := { dst := some 31, op := Op.move (Operand.tmp 30), type := 4, pos := "ref.go:52", after := #[{ on := 6, ground := Ground.data }, { on := 6, ground := Ground.chain }], guard := none }) (v := ?_) rfl (by kernel_rfl) (by kernel_rfl) (by kernel_rfl) (fun _ _ _ h => h) (Or.inl ⟨by rfl, ?_⟩) hHeld ?_
            rotate_left
            · intro w hSw
              clear hSw
              go_simp
              try with_reducible rfl
            try simp only [Act.put, List.setIfInBounds_toArray, List.set_cons_zero, List.set_cons_succ]
            refine wpAnyH_take (i := 8) (oi := { dst := some 32, op := Op.move (Operand.tmp 8), type := 3, pos := "ref.go:52", after := #[{ on := 7, ground := Ground.guard }], guard := some (7, true) }) (v := ?_) rfl (by kernel_rfl) (by kernel_rfl) (by kernel_rfl) (fun _ _ _ h => h) (Or.inl ⟨by rfl, ?_⟩) hHeld ?_
            rotate_left
            · intro w hSw
              clear hSw
              go_simp
              try with_reducible rfl
            try simp only [Act.put, List.setIfInBounds_toArray, List.set_cons_zero, List.set_cons_succ]
            refine wpAnyH_take (i := 9) (oi := { dst := some 33, op := Op.binOp BinOp.lss 3 (Operand.tmp 32) (Operand.const (Value.int IntKind.i64 0)) 3, type := 4, pos := "ref.go:52", after := #[{ on := 8, ground := Ground.data }, { on := 7, ground := Ground.guard }], guard := some (7, true) }) (v := .bool false) rfl (by kernel_rfl) (by kernel_rfl) (by kernel_rfl) (fun _ _ _ h => h) (Or.inl ⟨by rfl, ?_⟩) hHeld ?_
            · intro w hSw
              clear hSw
              go_simp
              try (first | omega | simp)
            try simp only [Act.put, List.setIfInBounds_toArray, List.set_cons_zero, List.set_cons_succ]
            refine wpAnyH_take (i := 10) (oi := { dst := some 34, op := Op.move (Operand.tmp 33), type := 4, pos := "ref.go:52", after := #[{ on := 9, ground := Ground.data }, { on := 7, ground := Ground.chain }, { on := 7, ground := Ground.guard }], guard := some (7, true) }) (v := ?_) rfl (by kernel_rfl) (by kernel_rfl) (by kernel_rfl) (fun _ _ _ h => h) (Or.inl ⟨by rfl, ?_⟩) hHeld ?_
            rotate_left
            · intro w hSw
              clear hSw
              go_simp
              try with_reducible rfl
            try simp only [Act.put, List.setIfInBounds_toArray, List.set_cons_zero, List.set_cons_succ]
            refine wpAnyH_take (i := 11) (oi := { dst := some 35, op := Op.move (Operand.tmp 0), type := 38, pos := "ref.go:52", after := #[{ on := 10, ground := Ground.guard }], guard := some (10, false) }) (v := ?_) rfl (by kernel_rfl) (by kernel_rfl) (by kernel_rfl) (fun _ _ _ h => h) (Or.inl ⟨by rfl, ?_⟩) hHeld ?_
            rotate_left
            · intro w hSw
              clear hSw
              go_simp
              try with_reducible rfl
            try simp only [Act.put, List.setIfInBounds_toArray, List.set_cons_zero, List.set_cons_succ]
            refine wpAnyH_take (i := 12) (oi := { dst := some 36, op := Op.move (Operand.tmp 9), type := 3, pos := "ref.go:52", after := #[{ on := 10, ground := Ground.guard }], guard := some (10, false) }) (v := ?_) rfl (by kernel_rfl) (by kernel_rfl) (by kernel_rfl) (fun _ _ _ h => h) (Or.inl ⟨by rfl, ?_⟩) hHeld ?_
            rotate_left
            · intro w hSw
              clear hSw
              go_simp
              try with_reducible rfl
            try simp only [Act.put, List.setIfInBounds_toArray, List.set_cons_zero, List.set_cons_succ]
            refine wpAnyH_take (i := 13) (oi := { dst := some 37, op := Op.indexAddr 38 (Operand.tmp 35) (Operand.tmp 36), type := 0, pos := "ref.go:52", after := #[{ on := 11, ground := Ground.data }, { on := 12, ground := Ground.data }, { on := 10, ground := Ground.guard }], guard := some (10, false) }) (v := ?_) rfl (by kernel_rfl) (by kernel_rfl) (by kernel_rfl) (fun _ _ _ h => h) (Or.inl ⟨by rfl, ?_⟩) hHeld ?_
            rotate_left
            · intro w hSw
              clear hSw
              go_simp
              try with_reducible rfl
            try simp only [Act.put, List.setIfInBounds_toArray, List.set_cons_zero, List.set_cons_succ]
            refine wpAnyH_take (i := 14) (oi := { dst := some 38, op := Op.fieldAddr 60 (Operand.tmp 37) 0, type := 0, pos := "ref.go:52", after := #[{ on := 13, ground := Ground.data }, { on := 10, ground := Ground.guard }], guard := some (10, false) }) (v := ?_) rfl (by kernel_rfl) (by kernel_rfl) (by kernel_rfl) (fun _ _ _ h => h) (Or.inl ⟨by rfl, ?_⟩) hHeld ?_
            rotate_left
            · intro w hSw
              clear hSw
              go_simp
              try with_reducible rfl
            try simp only [Act.put, List.setIfInBounds_toArray, List.set_cons_zero, List.set_cons_succ]
            refine wpAnyH_take (i := 15) (oi := { dst := some 39, op := Op.fieldAddr 30 (Operand.tmp 38) 3, type := 0, pos := "ref.go:52", after := #[{ on := 14, ground := Ground.data }, { on := 10, ground := Ground.guard }], guard := some (10, false) }) (v := ?_) rfl (by kernel_rfl) (by kernel_rfl) (by kernel_rfl) (fun _ _ _ h => h) (Or.inl ⟨by rfl, ?_⟩) hHeld ?_
            rotate_left
            · intro w hSw
              clear hSw
              go_simp
              try with_reducible rfl
            try simp only [Act.put, List.setIfInBounds_toArray, List.set_cons_zero, List.set_cons_succ]
            refine wpAnyH_take (i := 16) (oi := { dst := some 40, op := Op.load 3 (Operand.tmp 39), type := 3, pos := "ref.go:52", after := #[{ on := 15, ground := Ground.data }, { on := 10, ground := Ground.guard }], guard := some (10, false) }) (v := ?_) rfl (by kernel_rfl) (by kernel_rfl) (by kernel_rfl) (fun _ _ _ h => h) (Or.inl ⟨by rfl, ?_⟩) hHeld ?_
            rotate_left
            · intro w hSw
              obtain ⟨l0, l1, l2, l3, l4⟩ := HL5.out.read HY.out (HBr.out.trans (hSw.mono HBr.out.size))
              obtain ⟨q0, q1, q2, q3, _⟩ := c4_at (HQ.out.below (HBr.out.trans (hSw.mono HBr.out.size)) HQ.out.lt)
              obtain ⟨m0, m1, m2, m3, m4⟩ := HL5.out.read HJ2.out (HBr.out.trans (hSw.mono HBr.out.size))
              go_simp
              try with_reducible rfl
            try simp only [Act.put, List.setIfInBounds_toArray, List.set_cons_zero, List.set_cons_succ]
            refine wpAnyH_take (i := 17) (oi := { dst := some 41, op := Op.move (Operand.tmp 0), type := 38, pos := "ref.go:52", after := #[{ on := 10, ground := Ground.guard }], guard := some (10, false) }) (v := ?_) rfl (by kernel_rfl) (by kernel_rfl) (by kernel_rfl) (fun _ _ _ h => h) (Or.inl ⟨by rfl, ?_⟩) hHeld ?_
            rotate_left
            · intro w hSw
              clear hSw
              go_simp
              try with_reducible rfl
            try simp only [Act.put, List.setIfInBounds_toArray, List.set_cons_zero, List.set_cons_succ]
            refine wpAnyH_take (i := 18) (oi := { dst := some 42, op := Op.move (Operand.tmp 8), type := 3, pos := "ref.go:52", after := #[{ on := 10, ground := Ground.guard }], guard := some (10, false) }) (v := ?_) rfl (by kernel_rfl) (by kernel_rfl) (by kernel_rfl) (fun _ _ _ h => h) (Or.inl ⟨by rfl, ?_⟩) hHeld ?_
            rotate_left
            · intro w hSw
              clear hSw
              go_simp
              try with_reducible rfl
            try simp only [Act.put, List.setIfInBounds_toArray, List.set_cons_zero, List.set_cons_succ]
            refine wpAnyH_take (i := 19) (oi := { dst := some 43, op := Op.indexAddr 38 (Operand.tmp 41) (Operand.tmp 42), type := 0, pos := "ref.go:52", after := #[{ on := 17, ground := Ground.data }, { on := 18, ground := Ground.data }, { on := 10, ground := Ground.guard }], guard := some (10, false) }) (v := ?_) rfl (by kernel_rfl) (by kernel_rfl) (by kernel_rfl) (fun _ _ _ h => h) (Or.inl ⟨by rfl, ?_⟩) hHeld ?_
            rotate_left
            · intro w hSw
              clear hSw
              go_simp
              try with_reducible rfl
            try simp only [Act.put, List.setIfInBounds_toArray, List.set_cons_zero, List.set_cons_succ]
            refine wpAnyH_take (i := 20) (oi := { dst := some 44, op := Op.fieldAddr 60 (Operand.tmp 43) 0, type := 0, pos := "ref.go:52", after := #[{ on := 19, ground := Ground.data }, { on := 10, ground := Ground.guard }], guard := some (10, false) }) (v := ?_) rfl (by kernel_rfl) (by kernel_rfl) (by kernel_rfl) (fun _ _ _ h => h) (Or.inl ⟨by rfl, ?_⟩) hHeld ?_
            rotate_left
            · intro w hSw
              clear hSw
              go_simp
              try with_reducible rfl
            try simp only [Act.put, List.setIfInBounds_toArray, List.set_cons_zero, List.set_cons_succ]
            refine wpAnyH_take (i := 21) (oi := { dst := some 45, op := Op.fieldAddr 30 (Operand.tmp 44) 3, type := 0, pos := "ref.go:52", after := #[{ on := 20, ground := Ground.data }, { on := 10, ground := Ground.guard }], guard := some (10, false) }) (v := ?_) rfl (by kernel_rfl) (by kernel_rfl) (by kernel_rfl) (fun _ _ _ h => h) (Or.inl ⟨by rfl, ?_⟩) hHeld ?_
            rotate_left
            · intro w hSw
              clear hSw
              go_simp
              try with_reducible rfl
            try simp only [Act.put, List.setIfInBounds_toArray, List.set_cons_zero, List.set_cons_succ]
            refine wpAnyH_take (i := 22) (oi := { dst := some 46, op := Op.load 3 (Operand.tmp 45), type := 3, pos := "ref.go:52", after := #[{ on := 21, ground := Ground.data }, { on := 10, ground := Ground.guard }], guard := some (10, false) }) (v := ?_) rfl (by kernel_rfl) (by kernel_rfl) (by kernel_rfl) (fun _ _ _ h => h) (Or.inl ⟨by rfl, ?_⟩) hHeld ?_
            rotate_left
            · intro w hSw
              obtain ⟨l0, l1, l2, l3, l4⟩ := HL5.out.read HY.out (HBr.out.trans (hSw.mono HBr.out.size))
              obtain ⟨q0, q1, q2, q3, _⟩ := c4_at (HQ.out.below (HBr.out.trans (hSw.mono HBr.out.size)) HQ.out.lt)
              obtain ⟨m0, m1, m2, m3, m4⟩ := HL5.out.read HJ2.out (HBr.out.trans (hSw.mono HBr.out.size))
              go_simp
              try with_reducible rfl
            try simp only [Act.put, List.setIfInBounds_toArray, List.set_cons_zero, List.set_cons_succ]
            refine wpAnyH_take (i := 23) (oi := { dst := some 47, op := Op.binOp BinOp.gtr 3 (Operand.tmp 40) (Operand.tmp 46) 3, type := 4, pos := "ref.go:52", after := #[{ on := 16, ground := Ground.data }, { on := 22, ground := Ground.data }, { on := 10, ground := Ground.guard }], guard := some (10, false) }) (v := .bool false) rfl (by kernel_rfl) (by kernel_rfl) (by kernel_rfl) (fun _ _ _ h => h) (Or.inl ⟨by rfl, ?_⟩) hHeld ?_
            · intro w hSw
              clear hSw
              go_simp
              try (first | exact HLL.out | omega)
            try simp only [Act.put, List.setIfInBounds_toArray, List.set_cons_zero, List.set_cons_succ]
            refine wpAnyH_take (i := 24) (oi := { dst := some 48, op := Op.pick (Operand.tmp 34) (Operand.const (Value.bool true)) (Operand.tmp 47), type := 4, pos := "ref.go:52", after := #[{ on := 10, ground := Ground.data }, { on := 23, ground := Ground.data }, { on := 7, ground := Ground.guard }], guard := some (7, true) }) (v := ?_) rfl (by kernel_rfl) (by kernel_rfl) (by kernel_rfl) (fun _ _ _ h => h) (Or.inl ⟨by rfl, ?_⟩) hHeld ?_
            rotate_left
            · intro w hSw
              clear hSw
              go_simp
              try with_reducible rfl
            try simp only [Act.put, List.setIfInBounds_toArray, List.set_cons_zero, List.set_cons_succ]
            refine wpAnyH_take (i := 25) (oi := { dst := some 49, op := Op.pick (Operand.tmp 31) (Operand.tmp 48) (Operand.const (Value.bool false)), type := 4, pos := "ref.go:52", after := #[{ on := 7, ground := Ground.data }, { on := 24, ground := Ground.data }], guard := none }) (v := ?_) rfl (by kernel_rfl) (by kernel_rfl) (by kernel_rfl) (fun _ _ _ h => h) (Or.inl ⟨by rfl, ?_⟩) hHeld ?_
            rotate_left
            · intro w hSw
              clear hSw
              go_simp
              try with_reducible rfl
            try simp only [Act.put, List.setIfInBounds_toArray, List.set_cons_zero, List.set_cons_succ]
            refine wpAnyH_done (by kernel_rfl) ?_ _
            have HB8 : Hid (Below W5.heap.size W5 w9) := HBr.out.trans (hHeld.mono HBr.out.size)
            clear hHeld HB9
            go_wp2_with fail
            exact ⟨⟨k + 1, (j : Nat), by omega, by go_num, rfl, HB8.out, HB2⟩, by simp [intOf]; omega⟩
      · have HCV := Lib.hid hc
        have HB2 := Lib.hid (BestI.no HBI.out HY.out hc)
        clear hc
        go_wp2_with fail
        refine wp_region_held_drew (S := fun w' => Below wr.heap.size wr w') (by kernel_rfl) (below_drewN (Below.refl _ _) 1) (fun hHeld => ?_)
        refine wpAnyH_take (i := 0) (oi := { dst := some 24, op := Op.move (Operand.tmp 0), type := 38, pos := "ref.go:52", after := #[], guard := none }) (v := ?_) rfl (by kernel_rfl) (by kernel_rfl) (by kernel_rfl) (fun _ _ _ h => h) (Or.inl ⟨by rfl, ?_⟩) hHeld ?_
        rotate_left
        · intro w hSw
          clear hSw
          go_simp
          try with_reducible rfl
        try simp only [Act.put, List.setIfInBounds_toArray, List.set_cons_zero, List.set_cons_succ]
        refine wpAnyH_take (i := 1) (oi := { dst := some 25, op := Op.move (Operand.tmp 9), type := 3, pos := "ref.go:52", after := #[], guard := none }) (v := ?_) rfl (by kernel_rfl) (by kernel_rfl) (by kernel_rfl) (fun _ _ _ h => h) (Or.inl ⟨by rfl, ?_⟩) hHeld ?_
        rotate_left
        · intro w hSw
          clear hSw
          go_simp
          try with_reducible rfl
        try simp only [Act.put, List.setIfInBounds_toArray, List.set_cons_zero, List.set_cons_succ]
        refine wpAnyH_take (i := 2) (oi := { dst := some 26, op := Op.indexAddr 38 (Operand.tmp 24) (Operand.tmp 25), type := 0, pos := "ref.go:52", after := #[{ on := 0, ground := Ground.data }, { on := 1, ground := Ground.data }], guard := none }) (v := ?_) rfl (by kernel_rfl) (by kernel_rfl) (by kernel_rfl) (fun _ _ _ h => h) (Or.inl ⟨by rfl, ?_⟩) hHeld ?_
        rotate_left
        · intro w hSw
          clear hSw
          go_simp
          try with_reducible rfl
        try simp only [Act.put, List.setIfInBounds_toArray, List.set_cons_zero, List.set_cons_succ]
        refine wpAnyH_take (i := 3) (oi := { dst := some 27, op := Op.fieldAddr 60 (Operand.tmp 26) 0, type := 0, pos := "ref.go:52", after := #[{ on := 2, ground := Ground.data }], guard := none }) (v := ?_) rfl (by kernel_rfl) (by kernel_rfl) (by kernel_rfl) (fun _ _ _ h => h) (Or.inl ⟨by rfl, ?_⟩) hHeld ?_
        rotate_left
        · intro w hSw
          clear hSw
          go_simp
          try with_reducible rfl
        try simp only [Act.put, List.setIfInBounds_toArray, List.set_cons_zero, List.set_cons_succ]
        refine wpAnyH_take (i := 4) (oi := { dst := some 28, op := Op.load 30 (Operand.tmp 27), type := 30, pos := "ref.go:52", after := #[{ on := 3, ground := Ground.data }], guard := none }) (v := ?_) rfl (by kernel_rfl) (by kernel_rfl) (by kernel_rfl) (fun _ _ _ h => h) (Or.inl ⟨by rfl, ?_⟩) hHeld ?_
        rotate_left
        · intro w hSw
          obtain ⟨l0, l1, l2, l3, l4⟩ := HL5.out.read HY.out (HBr.out.trans (hSw.mono HBr.out.size))
          obtain ⟨q0, q1, q2, q3, _⟩ := c4_at (HQ.out.below (HBr.out.trans (hSw.mono HBr.out.size)) HQ.out.lt)
          go_simp
          try with_reducible rfl
        try simp only [Act.put, List.setIfInBounds_toArray, List.set_cons_zero, List.set_cons_succ]
        refine wpAnyH_take (i := 5) (oi := { dst := some 29, op := Op.load 30 (Operand.tmp 6), type := 30, pos := "ref.go:52", after := #[], guard := none }) (v := ?_) rfl (by kernel_rfl) (by kernel_rfl) (by kernel_rfl) (fun _ _ _ h => h) (Or.inl ⟨by rfl, ?_⟩) hHeld ?_
        rotate_left
        · intro w hSw
          obtain ⟨l0, l1, l2, l3, l4⟩ := HL5.out.read HY.out (HBr.out.trans (hSw.mono HBr.out.size))
          obtain ⟨q0, q1, q2, q3, _⟩ := c4_at (HQ.out.below (HBr.out.trans (hSw.mono HBr.out.size)) HQ.out.lt)
          go_simp
          try with_reducible rfl
        try simp only [Act.put, List.setIfInBounds_toArray, List.set_cons_zero, List.set_cons_succ]
        refine wpAnyH_ready (rs := [6]) (by kernel_rfl) (by simp) ?_
        refine AllReadyH.cons (o := { dst := some 30, op := Op.call { callee := Callee.value (Operand.func 29), args := #[Operand.tmp 28, Operand.tmp 29], argTypes := #[30, 30] }, type := 4, pos := "ref.go:52", after := #[{ on := 4, ground := Ground.data }, { on := 5, ground := Ground.data }], guard := none }) rfl (fun K hK => ?_) AllReadyH.nil
        go_simp
        refine (HRC.out q _ HYO.out).mono ?_
        rintro e w9 ⟨hb9, r, rfl, hr⟩
        obtain rfl : r = false := by
          cases r with
          | false => rfl
          | true => exact absurd (hr.1 rfl) HCV.out
        have HB9 := Lib.hid hb9
        clear hr hb9
        go_wp2_with fail
        refine hK.out _ _ (hHeld.trans (HB9.out.mono hHeld.size)) (fun hHeld => ?_)
        clear hK K
        try simp only [Act.put, List.setIfInBounds_toArray, List.set_cons_zero, List.set_cons_succ]
        refine wpAnyH_take (i := 7) (oi := { dst := some 31, op := Op.move (Operand.tmp 30), type := 4, pos := "ref.go:52", after := #[{ on := 6, ground := Ground.data }, { on := 6, ground := Ground.chain }], guard := none }) (v := ?_) rfl (by kernel_rfl) (by kernel_rfl) (by kernel_rfl) (fun _ _ _ h => h) (Or.inl ⟨by rfl, ?_⟩) hHeld ?_
        rotate_left
        · intro w hSw
          clear hSw
          go_simp
          try with_reducible rfl
        try simp only [Act.put, List.setIfInBounds_toArray, List.set_cons_zero, List.set_cons_succ]
        refine wpAnyH_take (i := 8) (oi := { dst := some 32, op := Op.move (Operand.tmp 8), type := 3, pos := "ref.go:52", after := #[{ on := 7, ground := Ground.guard }], guard := some (7, true) }) (v := undef) rfl (by kernel_rfl) (by kernel_rfl) (by kernel_rfl) (fun _ _ _ h => h) (Or.inr ⟨by rfl, rfl⟩) hHeld ?_
        try simp only [Act.put, List.setIfInBounds_toArray, List.set_cons_zero, List.set_cons_succ]
        refine wpAnyH_take (i := 9) (oi := { dst := some 33, op := Op.binOp BinOp.lss 3 (Operand.tmp 32) (Operand.const (Value.int IntKind.i64 0)) 3, type := 4, pos := "ref.go:52", after := #[{ on := 8, ground := Ground.data }, { on := 7, ground := Ground.guard }], guard := some (7, true) }) (v := undef) rfl (by kernel_rfl) (by kernel_rfl) (by kernel_rfl) (fun _ _ _ h => h) (Or.inr ⟨by rfl, rfl⟩) hHeld ?_
        try simp only [Act.put, List.setIfInBounds_toArray, List.set_cons_zero, List.set_cons_succ]
        refine wpAnyH_take (i := 10) (oi := { dst := some 34, op := Op.move (Operand.tmp 33), type := 4, pos := "ref.go:52", after := #[{ on := 9, ground := Ground.data }, { on := 7, ground := Ground.chain }, { on := 7, ground := Ground.guard }], guard := some (7, true) }) (v := undef) rfl (by kernel_rfl) (by kernel_rfl) (by kernel_rfl) (fun _ _ _ h => h) (Or.inr ⟨by rfl, rfl⟩) hHeld ?_
        try simp only [Act.put, List.setIfInBounds_toArray, List.set_cons_zero, List.set_cons_succ]
        refine wpAnyH_take (i := 11) (oi := { dst := some 35, op := Op.move (Operand.tmp 0), type := 38, pos := "ref.go:52", after := #[{ on := 10, ground := Ground.guard }], guard := some (10, false) }) (v := undef) rfl (by kernel_rfl) (by kernel_rfl) (by kernel_rfl) (fun _ _ _ h => h) (Or.inr ⟨by rfl, rfl⟩) hHeld ?_
        try simp only [Act.put, List.setIfInBounds_toArray, List.set_cons_zero, List.set_cons_succ]
        refine wpAnyH_take (i := 12) (oi := { dst := some 36, op := Op.move (Operand.tmp 9), type := 3, pos := "ref.go:52", after := #[{ on := 10, ground := Ground.guard }], guard := some (10, false) }) (v := undef) rfl (by kernel_rfl) (by kernel_rfl) (by kernel_rfl) (fun _ _ _ h => h) (Or.inr ⟨by rfl, rfl⟩) hHeld ?_
        try simp only [Act.put, List.setIfInBounds_toArray, List.set_cons_zero, List.set_cons_succ]
        refine wpAnyH_take (i := 13) (oi := { dst := some 37, op := Op.indexAddr 38 (Operand.tmp 35) (Operand.tmp 36), type := 0, pos := "ref.go:52", after := #[{ on := 11, ground := Ground.data }, { on := 12, ground := Ground.data }, { on := 10, ground := Ground.guard }], guard := some (10, false) }) (v := undef) rfl (by kernel_rfl) (by kernel_rfl) (by kernel_rfl) (fun _ _ _ h => h) (Or.inr ⟨by rfl, rfl⟩) hHeld ?_
        try simp only [Act.put, List.setIfInBounds_toArray, List.set_cons_zero, List.set_cons_succ]
        refine wpAnyH_take (i := 14) (oi := { dst := some 38, op := Op.fieldAddr 60 (Operand.tmp 37) 0, type := 0, pos := "ref.go:52", after := #[{ on := 13, ground := Ground.data }, { on := 10, ground := Ground.guard }], guard := some (10, false) }) (v := undef) rfl (by kernel_rfl) (by kernel_rfl) (by kernel_rfl) (fun _ _ _ h => h) (Or.inr ⟨by rfl, rfl⟩) hHeld ?_
        try simp only [Act.put, List.setIfInBounds_toArray, List.set_cons_zero, List.set_cons_succ]
        refine wpAnyH_take (i := 15) (oi := { dst := some 39, op := Op.fieldAddr 30 (Operand.tmp 38) 3, type := 0, pos := "ref.go:52", after := #[{ on := 14, ground := Ground.data }, { on := 10, ground := Ground.guard }], guard := some (10, false) }) (v := undef) rfl (by kernel_rfl) (by kernel_rfl) (by kernel_rfl) (fun _ _ _ h => h) (Or.inr ⟨by rfl, rfl⟩) hHeld ?_
        try simp only [Act.put, List.setIfInBounds_toArray, List.set_cons_zero, List.set_cons_succ]
        refine wpAnyH_take (i := 16) (oi := { dst := some 40, op := Op.load 3 (Operand.tmp 39), type := 3, pos := "ref.go:52", after := #[{ on := 15, ground := Ground.data }, { on := 10, ground := Ground.guard }], guard := some (10, false) }) (v := undef) rfl (by kernel_rfl) (by kernel_rfl) (by kernel_rfl) (fun _ _ _ h => h) (Or.inr ⟨by rfl, rfl⟩) hHeld ?_
        try simp only [Act.put, List.setIfInBounds_toArray, List.set_cons_zero, List.set_cons_succ]
        refine wpAnyH_take (i := 17) (oi := { dst := some 41, op := Op.move (Operand.tmp 0), type := 38, pos := "ref.go:52", after := #[{ on := 10, ground := Ground.guard }], guard := some (10, false) }) (v := undef) rfl (by kernel_rfl) (by kernel_rfl) (by kernel_rfl) (fun _ _ _ h => h) (Or.inr ⟨by rfl, rfl⟩) hHeld ?_
        try simp only [Act.put, List.setIfInBounds_toArray, List.set_cons_zero, List.set_cons_succ]
        refine wpAnyH_take (i := 18) (oi := { dst := some 42, op := Op.move (Operand.tmp 8), type := 3, pos := "ref.go:52", after := #[{ on := 10, ground := Ground.guard }], guard := some (10, false) }) (v := undef) rfl (by kernel_rfl) (by kernel_rfl) (by kernel_rfl) (fun _ _ _ h => h) (Or.inr ⟨by rfl, rfl⟩) hHeld ?_
        try simp only [Act.put, List.setIfInBounds_toArray, List.set_cons_zero, List.set_cons_succ]
        refine wpAnyH_take (i := 19) (oi := { dst := some 43, op := Op.indexAddr 38 (Operand.tmp 41) (Operand.tmp 42), type := 0, pos := "ref.go:52", after := #[{ on := 17, ground := Ground.data }, { on := 18, ground := Ground.data }, { on := 10, ground := Ground.guard }], guard := some (10, false) }) (v := undef) rfl (by kernel_rfl) (by kernel_rfl) (by kernel_rfl) (fun _ _ _ h => h) (Or.inr ⟨by rfl, rfl⟩) hHeld ?_
        try simp only [Act.put, List.setIfInBounds_toArray, List.set_cons_zero, List.set_cons_succ]
        refine wpAnyH_take (i := 20) (oi := { dst := some 44, op := Op.fieldAddr 60 (Operand.tmp 43) 0, type := 0, pos := "ref.go:52", after := #[{ on := 19, ground := Ground.data }, { on := 10, ground := Ground.guard }], guard := some (10, false) }) (v := undef) rfl (by kernel_rfl) (by kernel_rfl) (by kernel_rfl) (fun _ _ _ h => h) (Or.inr ⟨by rfl, rfl⟩) hHeld ?_
        try simp only [Act.put, List.setIfInBounds_toArray, List.set_cons_zero, List.set_cons_succ]
        refine wpAnyH_take (i := 21) (oi := { dst := some 45, op := Op.fieldAddr 30 (Operand.tmp 44) 3, type := 0, pos := "ref.go:52", after := #[{ on := 20, ground := Ground.data }, { on := 10, ground := Ground.guard }], guard := some (10, false) }) (v := undef) rfl (by kernel_rfl) (by kernel_rfl) (by kernel_rfl) (fun _ _ _ h => h) (Or.inr ⟨by rfl, rfl⟩) hHeld ?_
        try simp only [Act.put, List.setIfInBounds_toArray, List.set_cons_zero, List.set_cons_succ]
        refine wpAnyH_take (i := 22) (oi := { dst := some 46, op := Op.load 3 (Operand.tmp 45), type := 3, pos := "ref.go:52", after := #[{ on := 21, ground := Ground.data }, { on := 10, ground := Ground.guard }], guard := some (10, false) }) (v := undef) rfl (by kernel_rfl) (by kernel_rfl) (by kernel_rfl) (fun _ _ _ h => h) (Or.inr ⟨by rfl, rfl⟩) hHeld ?_
        try simp only [Act.put, List.setIfInBounds_toArray, List.set_cons_zero, List.set_cons_succ]
        refine wpAnyH_take (i := 23) (oi := { dst := some 47, op := Op.binOp BinOp.gtr 3 (Operand.tmp 40) (Operand.tmp 46) 3, type := 4, pos := "ref.go:52", after := #[{ on := 16, ground := Ground.data }, { on := 22, ground := Ground.data }, { on := 10, ground := Ground.guard }], guard := some (10, false) }) (v := undef) rfl (by kernel_rfl) (by kernel_rfl) (by kernel_rfl) (fun _ _ _ h => h) (Or.inr ⟨by rfl, rfl⟩) hHeld ?_
        try simp only [Act.put, List.setIfInBounds_toArray, List.set_cons_zero, List.set_cons_succ]
        refine wpAnyH_take (i := 24) (oi := { dst := some 48, op := Op.pick (Operand.tmp 34) (Operand.const (Value.bool true)) (Operand.tmp 47), type := 4, pos := "ref.go:52", after := #[{ on := 10, ground := Ground.data }, { on := 23, ground := Ground.data }, { on := 7, ground := Ground.guard }], guard := some (7, true) }) (v := undef) rfl (by kernel_rfl) (by kernel_rfl) (by kernel_rfl) (fun _ _ _ h => h) (Or.inr ⟨by rfl, rfl⟩) hHeld ?_
        try simp only [Act.put, List.setIfInBounds_toArray, List.set_cons_zero, List.set_cons_succ]
        refine wpAnyH_take (i := 25) (oi := { dst := some 49, op := Op.pick (Operand.tmp 31) (Operand.tmp 48) (Operand.const (Value.bool false)), type := 4, pos := "ref.go:52", after := #[{ on := 7, ground := Ground.data }, { on := 24, ground := Ground.data }], guard := none }) (v := ?_) rfl (by kernel_rfl) (by kernel_rfl) (by kernel_rfl) (fun _ _ _ h => h) (Or.inl ⟨by rfl, ?_⟩) hHeld ?_
        rotate_left
        · intro w hSw
          clear hSw
          go_simp
          try with_reducible rfl
        try simp only [Act.put, List.setIfInBounds_toArray, List.set_cons_zero, List.set_cons_succ]
        refine wpAnyH_done (by kernel_rfl) ?_ _
        have HB8 : Hid (Below W5.heap.size W5 w9) := HBr.out.trans (hHeld.mono HBr.out.size)
        clear hHeld HB9
        go_wp2_with fail
        exact ⟨⟨k + 1, best, by omega, by go_num, rfl, HB8.out, HB2⟩, by simp [intOf]; omega⟩
    · obtain rfl : L.length = k := by omega
      have HBF : Hid (Below w.heap.size w wr) := HB5.out.trans (HBr.out.mono HB5.out.size)
      rcases HBI.out with ⟨rfl, hno⟩ | ⟨j, z, rfl, j1, j2, j3, j4⟩
      · have HA := Lib.hid (LongM.of_none hno)
        clear hno HBI
        go_wp2_with fail
        go_ret2
        exact ⟨HBF.out, 0, false, rfl, HA.out⟩
      · have HA := Lib.hid (LongM.of_best j2 j3 j4)
        have hj0 : ¬ (j : Int) < 0 := by omega
        obtain ⟨g, cap2, hv, hgl, hnc, hcm, _, _⟩ := HL5.out.at_ j2
        simp only [Value.slice.injEq] at hv
        obtain ⟨rfl, _, rfl⟩ := hv
        unfold maxLen at hcm
        obtain ⟨l0, l1, l2, l3, l4⟩ := HL5.out.read j2 HBr.out
        clear HBI j2 j3 j4
        go_wp2_with fail
        go_ret2
        exact ⟨HBF.out, z.2, true, rfl, HA.out⟩
set_option maxRecDepth 100000 in
set_option maxHeartbeats 8000000 in
theorem rcost_v6 (L : List (Tp × Int)) (next : ByteArray) (base : Nat) (v : Value) (w : World) (h : WL w base v L) (hok : ∀ y ∈ L, y.1.Ok) (hll : L.length ≤ 1000000) (hs : next.size = 16) :
    Calls Try.prog 15 #[v, .string next] w (RC1Post w L (⟨2, 0, next, 128⟩ : Tp)) := by
  have HWH := Lib.hid (fun w => rwhole_any next w)
  rw [if_neg (by omega), if_pos hs, decide_eq_true (Or.inr hs)] at HWH
  have HPO : Hid (Tp.Ok (⟨2, 0, next, 128⟩ : Tp)) := whole_ok16 hs
  have HOK := Lib.hid hok
  have HRC := Lib.hid (fun a w ha => rcov_any a (⟨2, 0, next, 128⟩ : Tp) ha HPO.out w)
  obtain ⟨A, cap, rfl⟩ := OwnM.form h
  have HL := Lib.hid h
  clear h hok hs
  unfold Tp.v at HWH HRC
  dsimp only at HWH HRC
  go_enter Try.func15, Try.ntmps15
  go_wp2_with fail
  refine (HWH.out _).mono ?_
  rintro e w1 ⟨rfl, hb1⟩
  have HB1 := Lib.hid hb1
  clear hb1 HWH
  go_wp2_with fail
  refine wp_name fun W5 hW5 => ?_
  have HQ : Hid (CellsAt W5 w1.heap.size #[.int .i64 2, .int .u64 0, .string next, .int .i64 128] 30) := by
    rw [hW5]
    exact CellsAt.new' _ _ rfl _ _
  have HB5 : Hid (Below w.heap.size w W5) := by
    rw [hW5]
    exact HB1.out.alloc HB1.out.size _
  clear hW5 HB1
  have HL5 : Hid (WL W5 base (.slice A L.length cap) L) := HL.out.below HB5.out (Nat.le_refl _)
  have HI0 : Hid (BestI L (⟨2, 0, next, 128⟩ : Tp) 0 (-1)) := Or.inl ⟨rfl, fun j y hj => absurd hj (by omega)⟩
  go_loopw [9, 8] (fun i bv wr => ∃ (k : Nat) (best : Int), k ≤ L.length ∧ i = .int .i64 k ∧ bv = .int .i64 best ∧ Hid (Below W5.heap.size W5 wr) ∧ Hid (BestI L (⟨2, 0, next, 128⟩ : Tp) k best)) (fun i _ _ => L.length + 1 - (intOf i).toNat)
  case atStart => exact ⟨0, -1, Nat.zero_le _, rfl, rfl, Below.refl _ _, HI0⟩
  case round =>
    obtain ⟨k, best, hk, rfl, rfl, HBr, HBI⟩ := hrel
    by_cases hlt : k < L.length
    · obtain ⟨y, hy⟩ : ∃ y, L[k]? = some y := ⟨L[k], List.getElem?_eq_getElem hlt⟩
      obtain ⟨g, cap2, hv, hgl, hnc, hcm, _, _⟩ := HL5.out.at_ hy
      simp only [Value.slice.injEq] at hv
      obtain ⟨rfl, _, rfl⟩ := hv
      unfold maxLen at hcm
      have HY := Lib.hid hy
      have HYO := Lib.hid (HOK.out y (List.mem_of_getElem? hy))
      clear hy
      obtain ⟨q, c⟩ := y
      by_cases hc : covT q (⟨2, 0, next, 128⟩ : Tp)
      · have HCV := Lib.hid hc
        clear hc
        rcases HBI.out with ⟨rfl, hno⟩ | ⟨j, z, rfl, j1, j2, j3, j4⟩
        · have HB2 : Hid (BestI L (⟨2, 0, next, 128⟩ : Tp) (k + 1) (k : Nat)) := BestI.first hno HY.out HCV.out
          clear hno HBI
          go_wp2_with fail
          refine wp_region_held_drew (S := fun w' => Below wr.heap.size wr w') (by kernel_rfl) (below_drewN (Below.refl _ _) 1) (fun hHeld => ?_)
          refine wpAnyH_take (i := 0) (oi := { dst := some 24, op := Op.move (Operand.tmp 0), type := 38, pos := "ref.go:52", after := #[], guard := none }) (v := ?_) rfl (by kernel_rfl) (by kernel_rfl) (by kernel_rfl) (fun _ _ _ h => h) (Or.inl ⟨by rfl, ?_⟩) hHeld ?_
          rotate_left
          · intro w hSw
            clear hSw
            go_simp
            try with_reducible rfl
          try simp only [Act.put, List.setIfInBounds_toArray, List.set_cons_zero, List.set_cons_succ]
          refine wpAnyH_take (i := 1) (oi := { dst := some 25, op := Op.move (Operand.tmp 9), type := 3, pos := "ref.go:52", after := #[], guard := none }) (v := ?_) rfl (by kernel_rfl) (by kernel_rfl) (by kernel_rfl) (fun _ _ _ h => h) (Or.inl ⟨by rfl, ?_⟩) hHeld ?_
          rotate_left
          · intro w hSw
            clear hSw
            go_simp
            try with_reducible rfl
          try simp only [Act.put, List.setIfInBounds_toArray, List.set_cons_zero, List.set_cons_succ]
          refine wpAnyH_take (i := 2) (oi := { dst := some 26, op := Op.indexAddr 38 (Operand.tmp 24) (Operand.tmp 25), type := 0, pos := "ref.go:52", after := #[{ on := 0, ground := Ground.data }, { on := 1, ground := Ground.data }], guard := none }) (v := ?_) rfl (by kernel_rfl) (by kernel_rfl) (by kernel_rfl) (fun _ _ _ h => h) (Or.inl ⟨by rfl, ?_⟩) hHeld ?_
          rotate_left
          · intro w hSw
            clear hSw
            go_simp
            try with_reducible rfl
          try simp only [Act.put, List.setIfInBounds_toArray, List.set_cons_zero, List.set_cons_succ]
          refine wpAnyH_take (i := 3) (oi := { dst := some 27, op := Op.fieldAddr 60 (Operand.tmp 26) 0, type := 0, pos := "ref.go:52", after := #[{ on := 2, ground := Ground.data }], guard := none }) (v := ?_) rfl (by kernel_rfl) (by kernel_rfl) (by kernel_rfl) (fun _ _ _ h => h) (Or.inl ⟨by rfl, ?_⟩) hHeld ?_
          rotate_left
          · intro w hSw
            clear hSw
            go_simp
            try with_reducible rfl
          try simp only [Act.put, List.setIfInBounds_toArray, List.set_cons_zero, List.set_cons_succ]
          refine wpAnyH_take (i := 4) (oi := { dst := some 28, op := Op.load 30 (Operand.tmp 27), type := 30, pos := "ref.go:52", after := #[{ on := 3, ground := Ground.data }], guard := none }) (v := ?_) rfl (by kernel_rfl) (by kernel_rfl) (by kernel_rfl) (fun _ _ _ h => h) (Or.inl ⟨by rfl, ?_⟩) hHeld ?_
          rotate_left
          · intro w hSw
            obtain ⟨l0, l1, l2, l3, l4⟩ := HL5.out.read HY.out (HBr.out.trans (hSw.mono HBr.out.size))
            obtain ⟨q0, q1, q2, q3, _⟩ := c4_at (HQ.out.below (HBr.out.trans (hSw.mono HBr.out.size)) HQ.out.lt)
            go_simp
            try with_reducible rfl
          try simp only [Act.put, List.setIfInBounds_toArray, List.set_cons_zero, List.set_cons_succ]
          refine wpAnyH_take (i := 5) (oi := { dst := some 29, op := Op.load 30 (Operand.tmp 6), type := 30, pos := "ref.go:52", after := #[], guard := none }) (v := ?_) rfl (by kernel_rfl) (by kernel_rfl) (by kernel_rfl) (fun _ _ _ h => h) (Or.inl ⟨by rfl, ?_⟩) hHeld ?_
          rotate_left
          · intro w hSw
            obtain ⟨l0, l1, l2, l3, l4⟩ := HL5.out.read HY.out (HBr.out.trans (hSw.mono HBr.out.size))
            obtain ⟨q0, q1, q2, q3, _⟩ := c4_at (HQ.out.below (HBr.out.trans (hSw.mono HBr.out.size)) HQ.out.lt)
            go_simp
            try with_reducible rfl
          try simp only [Act.put, List.setIfInBounds_toArray, List.set_cons_zero, List.set_cons_succ]
          refine wpAnyH_ready (rs := [6]) (by kernel_rfl) (by simp) ?_
          refine AllReadyH.cons (o := { dst := some 30, op := Op.call { callee := Callee.value (Operand.func 29), args := #[Operand.tmp 28, Operand.tmp 29], argTypes := #[30, 30] }, type := 4, pos := "ref.go:52", after := #[{ on := 4, ground := Ground.data }, { on := 5, ground := Ground.data }], guard := none }) rfl (fun K hK => ?_) AllReadyH.nil
          go_simp
          refine (HRC.out q _ HYO.out).mono ?_
          rintro e w9 ⟨hb9, r, rfl, hr⟩
          obtain rfl : r = true := hr.2 HCV.out
          have HB9 := Lib.hid hb9
          clear hr hb9
          go_wp2_with fail
          refine hK.out _ _ (hHeld.trans (HB9.out.mono hHeld.size)) (fun hHeld => ?_)
          clear hK K
          try simp only [Act.put, List.setIfInBounds_toArray, List.set_cons_zero, List.set_cons_succ]
          refine wpAnyH_take (i := 7) (oi := { dst := some 31, op := Op.move (Operand.tmp 30), type := 4, pos := "ref.go:52", after := #[{ on := 6, ground := Ground.data }, { on := 6, ground := Ground.chain }], guard := none }) (v := ?_) rfl (by kernel_rfl) (by kernel_rfl) (by kernel_rfl) (fun _ _ _ h => h) (Or.inl ⟨by rfl, ?_⟩) hHeld ?_
          rotate_left
          · intro w hSw
            clear hSw
            go_simp
            try with_reducible rfl
          try simp only [Act.put, List.setIfInBounds_toArray, List.set_cons_zero, List.set_cons_succ]
          refine wpAnyH_take (i := 8) (oi := { dst := some 32, op := Op.move (Operand.tmp 8), type := 3, pos := "ref.go:52", after := #[{ on := 7, ground := Ground.guard }], guard := some (7, true) }) (v := ?_) rfl (by kernel_rfl) (by kernel_rfl) (by kernel_rfl) (fun _ _ _ h => h) (Or.inl ⟨by rfl, ?_⟩) hHeld ?_
          rotate_left
          · intro w hSw
            clear hSw
            go_simp
            try with_reducible rfl
          try simp only [Act.put, List.setIfInBounds_toArray, List.set_cons_zero, List.set_cons_succ]
          refine wpAnyH_take (i := 9) (oi := { dst := some 33, op := Op.binOp BinOp.lss 3 (Operand.tmp 32) (Operand.const (Value.int IntKind.i64 0)) 3, type := 4, pos := "ref.go:52", after := #[{ on := 8, ground := Ground.data }, { on := 7, ground := Ground.guard }], guard := some (7, true) }) (v := ?_) rfl (by kernel_rfl) (by kernel_rfl) (by kernel_rfl) (fun _ _ _ h => h) (Or.inl ⟨by rfl, ?_⟩) hHeld ?_
          rotate_left
          · intro w hSw
            clear hSw
            go_simp
            try with_reducible rfl
          try simp only [Act.put, List.setIfInBounds_toArray, List.set_cons_zero, List.set_cons_succ]
          refine wpAnyH_take (i := 10) (oi := { dst := some 34, op := Op.move (Operand.tmp 33), type := 4, pos := "ref.go:52", after := #[{ on := 9, ground := Ground.data }, { on := 7, ground := Ground.chain }, { on := 7, ground := Ground.guard }], guard := some (7, true) }) (v := ?_) rfl (by kernel_rfl) (by kernel_rfl) (by kernel_rfl) (fun _ _ _ h => h) (Or.inl ⟨by rfl, ?_⟩) hHeld ?_
          rotate_left
          · intro w hSw
            clear hSw
            go_simp
            try with_reducible rfl
          try simp only [Act.put, List.setIfInBounds_toArray, List.set_cons_zero, List.set_cons_succ]
          refine wpAnyH_take (i := 11) (oi := { dst := some 35, op := Op.move (Operand.tmp 0), type := 38, pos := "ref.go:52", after := #[{ on := 10, ground := Ground.guard }], guard := some (10, false) }) (v := undef) rfl (by kernel_rfl) (by kernel_rfl) (by kernel_rfl) (fun _ _ _ h => h) (Or.inr ⟨by rfl, rfl⟩) hHeld ?_
          try simp only [Act.put, List.setIfInBounds_toArray, List.set_cons_zero, List.set_cons_succ]
          refine wpAnyH_take (i := 12) (oi := { dst := some 36, op := Op.move (Operand.tmp 9), type := 3, pos := "ref.go:52", after := #[{ on := 10, ground := Ground.guard }], guard := some (10, false) }) (v := undef) rfl (by kernel_rfl) (by kernel_rfl) (by kernel_rfl) (fun _ _ _ h => h) (Or.inr ⟨by rfl, rfl⟩) hHeld ?_
          try simp only [Act.put, List.setIfInBounds_toArray, List.set_cons_zero, List.set_cons_succ]
          refine wpAnyH_take (i := 13) (oi := { dst := some 37, op := Op.indexAddr 38 (Operand.tmp 35) (Operand.tmp 36), type := 0, pos := "ref.go:52", after := #[{ on := 11, ground := Ground.data }, { on := 12, ground := Ground.data }, { on := 10, ground := Ground.guard }], guard := some (10, false) }) (v := undef) rfl (by kernel_rfl) (by kernel_rfl) (by kernel_rfl) (fun _ _ _ h => h) (Or.inr ⟨by rfl, rfl⟩) hHeld ?_
          try simp only [Act.put, List.setIfInBounds_toArray, List.set_cons_zero, List.set_cons_succ]
          refine wpAnyH_take (i := 14) (oi := { dst := some 38, op := Op.fieldAddr 60 (Operand.tmp 37) 0, type := 0, pos := "ref.go:52", after := #[{ on := 13, ground := Ground.data }, { on := 10, ground := Ground.guard }], guard := some (10, false) }) (v := undef) rfl (by kernel_rfl) (by kernel_rfl) (by kernel_rfl) (fun _ _ _ h => h) (Or.inr ⟨by rfl, rfl⟩) hHeld ?_
          try simp only [Act.put, List.setIfInBounds_toArray, List.set_cons_zero, List.set_cons_succ]
          refine wpAnyH_take (i := 15) (oi := { dst := some 39, op := Op.fieldAddr 30 (Operand.tmp 38) 3, type := 0, pos := "ref.go:52", after := #[{ on := 14, ground := Ground.data }, { on := 10, ground := Ground.guard }], guard := some (10, false) }) (v := undef) rfl (by kernel_rfl) (by kernel_rfl) (by kernel_rfl) (fun _ _ _ h => h) (Or.inr ⟨by rfl, rfl⟩) hHeld ?_
          try simp only [Act.put, List.setIfInBounds_toArray, List.set_cons_zero, List.set_cons_succ]
          refine wpAnyH_take (i := 16) (oi := { dst := some 40, op := Op.load 3 (Operand.tmp 39), type := 3, pos := "ref.go:52", after := #[{ on := 15, ground := Ground.data }, { on := 10, ground := Ground.guard }], guard := some (10, false) }) (v := undef) rfl (by kernel_rfl) (by kernel_rfl) (by kernel_rfl) (fun _ _ _ h => h) (Or.inr ⟨by rfl, rfl⟩) hHeld ?_
          try simp only [Act.put, List.setIfInBounds_toArray, List.set_cons_zero, List.set_cons_succ]
          refine wpAnyH_take (i := 17) (oi := { dst := some 41, op := Op.move (Operand.tmp 0), type := 38, pos := "ref.go:52", after := #[{ on := 10, ground := Ground.guard }], guard := some (10, false) }) (v := undef) rfl (by kernel_rfl) (by kernel_rfl) (by kernel_rfl) (fun _ _ _ h => h) (Or.inr ⟨by rfl, rfl⟩) hHeld ?_
          try simp only [Act.put, List.setIfInBounds_toArray, List.set_cons_zero, List.set_cons_succ]
          refine wpAnyH_take (i := 18) (oi := { dst := some 42, op := Op.move (Operand.tmp 8), type := 3, pos := "ref.go:52", after := #[{ on := 10, ground := Ground.guard }], guard := some (10, false) }) (v := undef) rfl (by kernel_rfl) (by kernel_rfl) (by kernel_rfl) (fun _ _ _ h => h) (Or.inr ⟨by rfl, rfl⟩) hHeld ?_
          try simp only [Act.put, List.setIfInBounds_toArray, List.set_cons_zero, List.set_cons_succ]
          refine wpAnyH_take (i := 19) (oi := { dst := some 43, op := Op.indexAddr 38 (Operand.tmp 41) (Operand.tmp 42), type := 0, pos := "ref.go:52", after := #[{ on := 17, ground := Ground.data }, { on := 18, ground := Ground.data }, { on := 10, ground := Ground.guard }], guard := some (10, false) }) (v := undef) rfl (by kernel_rfl) (by kernel_rfl) (by kernel_rfl) (fun _ _ _ h => h) (Or.inr ⟨by rfl, rfl⟩) hHeld ?_
          try simp only [Act.put, List.setIfInBounds_toArray, List.set_cons_zero, List.set_cons_succ]
          refine wpAnyH_take (i := 20) (oi := { dst := some 44, op := Op.fieldAddr 60 (Operand.tmp 43) 0, type := 0, pos := "ref.go:52", after := #[{ on := 19, ground := Ground.data }, { on := 10, ground := Ground.guard }], guard := some (10, false) }) (v := undef) rfl (by kernel_rfl) (by kernel_rfl) (by kernel_rfl) (fun _ _ _ h => h) (Or.inr ⟨by rfl, rfl⟩) hHeld ?_
          try simp only [Act.put, List.setIfInBounds_toArray, List.set_cons_zero, List.set_cons_succ]
          refine wpAnyH_take (i := 21) (oi := { dst := some 45, op := Op.fieldAddr 30 (Operand.tmp 44) 3, type := 0, pos := "ref.go:52", after := #[{ on := 20, ground := Ground.data }, { on := 10, ground := Ground.guard }], guard := some (10, false) }) (v := undef) rfl (by kernel_rfl) (by kernel_rfl) (by kernel_rfl) (fun _ _ _ h => h) (Or.inr ⟨by rfl, rfl⟩) hHeld ?_
          try simp only [Act.put, List.setIfInBounds_toArray, List.set_cons_zero, List.set_cons_succ]
          refine wpAnyH_take (i := 22) (oi := { dst := some 46, op := Op.load 3 (Operand.tmp 45), type := 3, pos := "ref.go:52", after := #[{ on := 21, ground := Ground.data }, { on := 10, ground := Ground.guard }], guard := some (10, false) }) (v := undef) rfl (by kernel_rfl) (by kernel_rfl) (by kernel_rfl) (fun _ _ _ h => h) (Or.inr ⟨by rfl, rfl⟩) hHeld ?_
          try simp only [Act.put, List.setIfInBounds_toArray, List.set_cons_zero, List.set_cons_succ]
          refine wpAnyH_take (i := 23) (oi := { dst := some 47, op := Op.binOp BinOp.gtr 3 (Operand.tmp 40) (Operand.tmp 46) 3, type := 4, pos := "ref.go:52", after := #[{ on := 16, ground := Ground.data }, { on := 22, ground := Ground.data }, { on := 10, ground := Ground.guard }], guard := some (10, false) }) (v := undef) rfl (by kernel_rfl) (by kernel_rfl) (by kernel_rfl) (fun _ _ _ h => h) (Or.inr ⟨by rfl, rfl⟩) hHeld ?_
          try simp only [Act.put, List.setIfInBounds_toArray, List.set_cons_zero, List.set_cons_succ]
          refine wpAnyH_take (i := 24) (oi := { dst := some 48, op := Op.pick (Operand.tmp 34) (Operand.const (Value.bool true)) (Operand.tmp 47), type := 4, pos := "ref.go:52", after := #[{ on := 10, ground := Ground.data }, { on := 23, ground := Ground.data }, { on := 7, ground := Ground.guard }], guard := some (7, true) }) (v := ?_) rfl (by kernel_rfl) (by kernel_rfl) (by kernel_rfl) (fun _ _ _ h => h) (Or.inl ⟨by rfl, ?_⟩) hHeld ?_
          rotate_left
          · intro w hSw
            clear hSw
            go_simp
            try with_reducible rfl
          try simp only [Act.put, List.setIfInBounds_toArray, List.set_cons_zero, List.set_cons_succ]
          refine wpAnyH_take (i := 25) (oi := { dst := some 49, op := Op.pick (Operand.tmp 31) (Operand.tmp 48) (Operand.const (Value.bool false)), type := 4, pos := "ref.go:52", after := #[{ on := 7, ground := Ground.data }, { on := 24, ground := Ground.data }], guard := none }) (v := ?_) rfl (by kernel_rfl) (by kernel_rfl) (by kernel_rfl) (fun _ _ _ h => h) (Or.inl ⟨by rfl, ?_⟩) hHeld ?_
          rotate_left
          · intro w hSw
            clear hSw
            go_simp
            try with_reducible rfl
          try simp only [Act.put, List.setIfInBounds_toArray, List.set_cons_zero, List.set_cons_succ]
          refine wpAnyH_done (by kernel_rfl) ?_ _
          have HB8 : Hid (Below W5.heap.size W5 w9) := HBr.out.trans (hHeld.mono HBr.out.size)
          clear hHeld HB9
          go_wp2_with fail
          exact ⟨⟨k + 1, (k : Nat), by omega, by go_num, rfl, HB8.out, HB2⟩, by simp [intOf]; omega⟩
        · have hj0 : ¬ (j : Int) < 0 := by omega
          have hjl : j < L.length := by omega
          have HJ2 := Lib.hid j2
          by_cases hl : z.1.len < q.len
          · have HB2 : Hid (BestI L (⟨2, 0, next, 128⟩ : Tp) (k + 1) (k : Nat)) := BestI.more j4 HY.out HCV.out hl
            have HLL := Lib.hid hl
            clear HBI j1 j2 j3 j4 hl
            go_wp2_with fail
            refine wp_region_held_drew (S := fun w' => Below wr.heap.size wr w') (by kernel_rfl) (below_drewN (Below.refl _ _) 1) (fun hHeld => ?_)
            refine wpAnyH_take (i := 0) (oi := { dst := some 24, op := Op.move (Operand.tmp 0), type := 38, pos := "ref.go:52", after := #[], guard := none }) (v := ?_) rfl (by kernel_rfl) (by kernel_rfl) (by kernel_rfl) (fun _ _ _ h => h) (Or.inl ⟨by rfl, ?_⟩) hHeld ?_
            rotate_left
            · intro w hSw
              clear hSw
              go_simp
              try with_reducible rfl
            try simp only [Act.put, List.setIfInBounds_toArray, List.set_cons_zero, List.set_cons_succ]
            refine wpAnyH_take (i := 1) (oi := { dst := some 25, op := Op.move (Operand.tmp 9), type := 3, pos := "ref.go:52", after := #[], guard := none }) (v := ?_) rfl (by kernel_rfl) (by kernel_rfl) (by kernel_rfl) (fun _ _ _ h => h) (Or.inl ⟨by rfl, ?_⟩) hHeld ?_
            rotate_left
            · intro w hSw
              clear hSw
              go_simp
              try with_reducible rfl
            try simp only [Act.put, List.setIfInBounds_toArray, List.set_cons_zero, List.set_cons_succ]
            refine wpAnyH_take (i := 2) (oi := { dst := some 26, op := Op.indexAddr 38 (Operand.tmp 24) (Operand.tmp 25), type := 0, pos := "ref.go:52", after := #[{ on := 0, ground := Ground.data }, { on := 1, ground := Ground.data }], guard := none }) (v := ?_) rfl (by kernel_rfl) (by kernel_rfl) (by kernel_rfl) (fun _ _ _ h => h) (Or.inl ⟨by rfl, ?_⟩) hHeld ?_
            rotate_left
            · intro w hSw
              clear hSw
              go_simp
              try with_reducible rfl
            try simp only [Act.put, List.setIfInBounds_toArray, List.set_cons_zero, List.set_cons_succ]
            refine wpAnyH_take (i := 3) (oi := { dst := some 27, op := Op.fieldAddr 60 (Operand.tmp 26) 0, type := 0, pos := "ref.go:52", after := #[{ on := 2, ground := Ground.data }], guard := none }) (v := ?_) rfl (by kernel_rfl) (by kernel_rfl) (by kernel_rfl) (fun _ _ _ h => h) (Or.inl ⟨by rfl, ?_⟩) hHeld ?_
            rotate_left
            · intro w hSw
              clear hSw
              go_simp
              try with_reducible rfl
            try simp only [Act.put, List.setIfInBounds_toArray, List.set_cons_zero, List.set_cons_succ]
            refine wpAnyH_take (i := 4) (oi := { dst := some 28, op := Op.load 30 (Operand.tmp 27), type := 30, pos := "ref.go:52", after := #[{ on := 3, ground := Ground.data }], guard := none }) (v := ?_) rfl (by kernel_rfl) (by kernel_rfl) (by kernel_rfl) (fun _ _ _ h => h) (Or.inl ⟨by rfl, ?_⟩) hHeld ?_
            rotate_left
            · intro w hSw
              obtain ⟨l0, l1, l2, l3, l4⟩ := HL5.out.read HY.out (HBr.out.trans (hSw.mono HBr.out.size))
              obtain ⟨q0, q1, q2, q3, _⟩ := c4_at (HQ.out.below (HBr.out.trans (hSw.mono HBr.out.size)) HQ.out.lt)
              obtain ⟨m0, m1, m2, m3, m4⟩ := HL5.out.read HJ2.out (HBr.out.trans (hSw.mono HBr.out.size))
              go_simp
              try with_reducible rfl
            try simp only [Act.put, List.setIfInBounds_toArray, List.set_cons_zero, List.set_cons_succ]
            refine wpAnyH_take (i := 5) (oi := { dst := some 29, op := Op.load 30 (Operand.tmp 6), type := 30, pos := "ref.go:52", after := #[], guard := none }) (v := ?_) rfl (by kernel_rfl) (by kernel_rfl) (by kernel_rfl) (fun _ _ _ h => h) (Or.inl ⟨by rfl, ?_⟩) hHeld ?_
            rotate_left
            · intro w hSw
              obtain ⟨l0, l1, l2, l3, l4⟩ := HL5.out.read HY.out (HBr.out.trans (hSw.mono HBr.out.size))
              obtain ⟨q0, q1, q2, q3, _⟩ := c4_at (HQ.out.below (HBr.out.trans (hSw.mono HBr.out.size)) HQ.out.lt)
              obtain ⟨m0, m1, m2, m3, m4⟩ := HL5.out.read HJ2.out (HBr.out.trans (hSw.mono HBr.out.size))
              go_simp
              try with_reducible rfl
            try simp only [Act.put, List.setIfInBounds_toArray, List.set_cons_zero, List.set_cons_succ]
            refine wpAnyH_ready (rs := [6]) (by kernel_rfl) (by simp) ?_
            refine AllReadyH.cons (o := { dst := some 30, op := Op.call { callee := Callee.value (Operand.func 29), args := #[Operand.tmp 28, Operand.tmp 29], argTypes := #[30, 30] }, type := 4, pos := "ref.go:52", after := #[{ on := 4, ground := Ground.data }, { on := 5, ground := Ground.data }], guard := none }) rfl (fun K hK => ?_) AllReadyH.nil
            go_simp
            refine (HRC.out q _ HYO.out).mono ?_
            rintro e w9 ⟨hb9, r, rfl, hr⟩
            obtain rfl : r = true := hr.2 HCV.out
            have HB9 := Lib.hid hb9
            clear hr hb9
            go_wp2_with fail
            refine hK.out _ _ (hHeld.trans (HB9.out.mono hHeld.size)) (fun hHeld => ?_)
            clear hK K
            try simp only [Act.put, List.setIfInBounds_toArray, List.set_cons_zero, List.set_cons_succ]
            refine wpAnyH_take (i := 7) (oi := { dst := some 31, op := Op.move (Operand.tmp 30), type := 4, pos := "ref.go:52", after := #[{ on := 6, ground := Ground.data }, { on := 6, ground := Ground.chain }], guard := none }) (v := ?_) rfl (by kernel_rfl) (by kernel_rfl) (by kernel_rfl) (fun _ _ _ h => h) (Or.inl ⟨by rfl, ?_⟩) hHeld ?_
            rotate_left
            · intro w hSw
              clear hSw
              go_simp
              try with_reducible rfl
            try simp only [Act.put, List.setIfInBounds_toArray, List.set_cons_zero, List.set_cons_succ]
            refine wpAnyH_take (i := 8) (oi := { dst := some 32, op := Op.move (Operand.tmp 8), type := 3, pos := "ref.go:52", after := #[{ on := 7, ground := Ground.guard }], guard := some (7, true) }) (v := ?_) rfl (by kernel_rfl) (by kernel_rfl) (by kernel_rfl) (fun _ _ _ h => h) (Or.inl ⟨by rfl, ?_⟩) hHeld ?_
            rotate_left
            · intro w hSw
              clear hSw
              go_simp
              try with_reducible rfl
            try simp only [Act.put, List.setIfInBounds_toArray, List.set_cons_zero, List.set_cons_succ]
            refine wpAnyH_take (i := 9) (oi := { dst := some 33, op := Op.binOp BinOp.lss 3 (Operand.tmp 32) (Operand.const (Value.int IntKind.i64 0)) 3, type := 4, pos := "ref.go:52", after := #[{ on := 8, ground := Ground.data }, { on := 7, ground := Ground.guard }], guard := some (7, true) }) (v := .bool false) rfl (by kernel_rfl) (by kernel_rfl) (by kernel_rfl) (fun _ _ _ h => h) (Or.inl ⟨by rfl, ?_⟩) hHeld ?_
            · intro w hSw
              clear hSw
              go_simp
              try (first | omega | simp)
            try simp only [Act.put, List.setIfInBounds_toArray, List.set_cons_zero, List.set_cons_succ]
            refine wpAnyH_take (i := 10) (oi := { dst := some 34, op := Op.move (Operand.tmp 33), type := 4, pos := "ref.go:52", after := #[{ on := 9, ground := Ground.data }, { on := 7, ground := Ground.chain }, { on := 7, ground := Ground.guard }], guard := some (7, true) }) (v := ?_) rfl (by kernel_rfl) (by kernel_rfl) (by kernel_rfl) (fun _ _ _ h => h) (Or.inl ⟨by rfl, ?_⟩) hHeld ?_
            rotate_left
            · intro w hSw
              clear hSw
              go_simp
              try with_reducible rfl
            try simp only [Act.put, List.setIfInBounds_toArray, List.set_cons_zero, List.set_cons_succ]
            refine wpAnyH_take (i := 11) (oi := { dst := some 35, op := Op.move (Operand.tmp 0), type := 38, pos := "ref.go:52", after := #[{ on := 10, ground := Ground.guard }], guard := some (10, false) }) (v := ?_) rfl (by kernel_rfl) (by kernel_rfl) (by kernel_rfl) (fun _ _ _ h => h) (Or.inl ⟨by rfl, ?_⟩) hHeld ?_
            rotate_left
            · intro w hSw
              clear hSw
              go_simp
              try with_reducible rfl
            try simp only [Act.put, List.setIfInBounds_toArray, List.set_cons_zero, List.set_cons_succ]
            refine wpAnyH_take (i := 12) (oi := { dst := some 36, op := Op.move (Operand.tmp 9), type := 3, pos := "ref.go:52", after := #[{ on := 10, ground := Ground.guard }], guard := some (10, false) }) (v := ?_) rfl (by kernel_rfl) (by kernel_rfl) (by kernel_rfl) (fun _ _ _ h => h) (Or.inl ⟨by rfl, ?_⟩) hHeld ?_
            rotate_left
            · intro w hSw
              clear hSw
              go_simp
              try with_reducible rfl
            try simp only [Act.put, List.setIfInBounds_toArray, List.set_cons_zero, List.set_cons_succ]
            refine wpAnyH_take (i := 13) (oi := { dst := some 37, op := Op.indexAddr 38 (Operand.tmp 35) (Operand.tmp 36), type := 0, pos := "ref.go:52", after := #[{ on := 11, ground := Ground.data }, { on := 12, ground := Ground.data }, { on := 10, ground := Ground.guard }], guard := some (10, false) }) (v := ?_) rfl (by kernel_rfl) (by kernel_rfl) (by kernel_rfl) (fun _ _ _ h => h) (Or.inl ⟨by rfl, ?_⟩) hHeld ?_
            rotate_left
            · intro w hSw
              clear hSw
              go_simp
              try with_reducible rfl
            try simp only [Act.put, List.setIfInBounds_toArray, List.set_cons_zero, List.set_cons_succ]
            refine wpAnyH_take (i := 14) (oi := { dst := some 38, op := Op.fieldAddr 60 (Operand.tmp 37) 0, type := 0, pos := "ref.go:52", after := #[{ on := 13, ground := Ground.data }, { on := 10, ground := Ground.guard }], guard := some (10, false) }) (v := ?_) rfl (by kernel_rfl) (by kernel_rfl) (by kernel_rfl) (fun _ _ _ h => h) (Or.inl ⟨by rfl, ?_⟩) hHeld ?_
            rotate_left
            · intro w hSw
              clear hSw
              go_simp
              try with_reducible rfl
            try simp only [Act.put, List.setIfInBounds_toArray, List.set_cons_zero, List.set_cons_succ]
            refine wpAnyH_take (i := 15) (oi := { dst := some 39, op := Op.fieldAddr 30 (Operand.tmp 38) 3, type := 0, pos := "ref.go:52", after := #[{ on := 14, ground := Ground.data }, { on := 10, ground := Ground.guard }], guard := some (10, false) }) (v := ?_) rfl (by kernel_rfl) (by kernel_rfl) (by kernel_rfl) (fun _ _ _ h => h) (Or.inl ⟨by rfl, ?_⟩) hHeld ?_
            rotate_left
            · intro w hSw
              clear hSw
              go_simp
              try with_reducible rfl
            try simp only [Act.put, List.setIfInBounds_toArray, List.set_cons_zero, List.set_cons_succ]
            refine wpAnyH_take (i := 16) (oi := { dst := some 40, op := Op.load 3 (Operand.tmp 39), type := 3, pos := "ref.go:52", after := #[{ on := 15, ground := Ground.data }, { on := 10, ground := Ground.guard }], guard := some (10, false) }) (v := ?_) rfl (by kernel_rfl) (by kernel_rfl) (by kernel_rfl) (fun _ _ _ h => h) (Or.inl ⟨by rfl, ?_⟩) hHeld ?_
            rotate_left
            · intro w hSw
              obtain ⟨l0, l1, l2, l3, l4⟩ := HL5.out.read HY.out (HBr.out.trans (hSw.mono HBr.out.size))
              obtain ⟨q0, q1, q2, q3, _⟩ := c4_at (HQ.out.below (HBr.out.trans (hSw.mono HBr.out.size)) HQ.out.lt)
              obtain ⟨m0, m1, m2, m3, m4⟩ := HL5.out.read HJ2.out (HBr.out.trans (hSw.mono HBr.out.size))
              go_simp
              try with_reducible rfl
            try simp only [Act.put, List.setIfInBounds_toArray, List.set_cons_zero, List.set_cons_succ]
            refine wpAnyH_take (i := 17) (oi := { dst := some 41, op := Op.move (Operand.tmp 0), type := 38, pos := "ref.go:52", after := #[{ on := 10, ground := Ground.guard }], guard := some (10, false) }) (v := ?_) rfl (by kernel_rfl) (by kernel_rfl) (by kernel_rfl) (fun _ _ _ h => h) (Or.inl ⟨by rfl, ?_⟩) hHeld ?_
            rotate_left
            · intro w hSw
              clear hSw
              go_simp
              try with_reducible rfl
            try simp only [Act.put, List.setIfInBounds_toArray, List.set_cons_zero, List.set_cons_succ]
            refine wpAnyH_take (i := 18) (oi := { dst := some 42, op := Op.move (Operand.tmp 8), type := 3, pos := "ref.go:52", after := #[{ on := 10, ground := Ground.guard }], guard := some (10, false) }) (v := ?_) rfl (by kernel_rfl) (by kernel_rfl) (by kernel_rfl) (fun _ _ _ h => h) (Or.inl ⟨by rfl, ?_⟩) hHeld ?_
            rotate_left
            · intro w hSw
              clear hSw
              go_simp
              try with_reducible rfl
            try simp only [Act.put, List.setIfInBounds_toArray, List.set_cons_zero, List.set_cons_succ]
            refine wpAnyH_take (i := 19) (oi := { dst := some 43, op := Op.indexAddr 38 (Operand.tmp 41) (Operand.tmp 42), type := 0, pos := "ref.go:52", after := #[{ on := 17, ground := Ground.data }, { on := 18, ground := Ground.data }, { on := 10, ground := Ground.guard }], guard := some (10, false) }) (v := ?_) rfl (by kernel_rfl) (by kernel_rfl) (by kernel_rfl) (fun _ _ _ h => h) (Or.inl ⟨by rfl, ?_⟩) hHeld ?_
            rotate_left
            · intro w hSw
              clear hSw
              go_simp
              try with_reducible rfl
            try simp only [Act.put, List.setIfInBounds_toArray, List.set_cons_zero, List.set_cons_succ]
            refine wpAnyH_take (i := 20) (oi := { dst := some 44, op := Op.fieldAddr 60 (Operand.tmp 43) 0, type := 0, pos := "ref.go:52", after := #[{ on := 19, ground := Ground.data }, { on := 10, ground := Ground.guard }], guard := some (10, false) }) (v := ?_) rfl (by kernel_rfl) (by kernel_rfl) (by kernel_rfl) (fun _ _ _ h => h) (Or.inl ⟨by rfl, ?_⟩) hHeld ?_
            rotate_left
            · intro w hSw
              clear hSw
              go_simp
              try with_reducible rfl
            try simp only [Act.put, List.setIfInBounds_toArray, List.set_cons_zero, List.set_cons_succ]
            refine wpAnyH_take (i := 21) (oi := { dst := some 45, op := Op.fieldAddr 30 (Operand.tmp 44) 3, type := 0, pos := "ref.go:52", after := #[{ on := 20, ground := Ground.data }, { on := 10, ground := Ground.guard }], guard := some (10, false) }) (v := ?_) rfl (by kernel_rfl) (by kernel_rfl) (by kernel_rfl) (fun _ _ _ h => h) (Or.inl ⟨by rfl, ?_⟩) hHeld ?_
            rotate_left
            · intro w hSw
              clear hSw
              go_simp
              try with_reducible rfl
            try simp only [Act.put, List.setIfInBounds_toArray, List.set_cons_zero, List.set_cons_succ]
            refine wpAnyH_take (i := 22) (oi := { dst := some 46, op := Op.load 3 (Operand.tmp 45), type := 3, pos := "ref.go:52", after := #[{ on := 21, ground := Ground.data }, { on := 10, ground := Ground.guard }], guard := some (10, false) }) (v := ?_) rfl (by kernel_rfl) (by kernel_rfl) (by kernel_rfl) (fun _ _ _ h => h) (Or.inl ⟨by rfl, ?_⟩) hHeld ?_
            rotate_left
            · intro w hSw
              obtain ⟨l0, l1, l2, l3, l4⟩ := HL5.out.read HY.out (HBr.out.trans (hSw.mono HBr.out.size))
              obtain ⟨q0, q1, q2, q3, _⟩ := c4_at (HQ.out.below (HBr.out.trans (hSw.mono HBr.out.size)) HQ.out.lt)
              obtain ⟨m0, m1, m2, m3, m4⟩ := HL5.out.read HJ2.out (HBr.out.trans (hSw.mono HBr.out.size))
              go_simp
              try with_reducible rfl
            try simp only [Act.put, List.setIfInBounds_toArray, List.set_cons_zero, List.set_cons_succ]
            refine wpAnyH_take (i := 23) (oi := { dst := some 47, op := Op.binOp BinOp.gtr 3 (Operand.tmp 40) (Operand.tmp 46) 3, type := 4, pos := "ref.go:52", after := #[{ on := 16, ground := Ground.data }, { on := 22, ground := Ground.data }, { on := 10, ground := Ground.guard }], guard := some (10, false) }) (v := .bool true) rfl (by kernel_rfl) (by kernel_rfl) (by kernel_rfl) (fun _ _ _ h => h) (Or.inl ⟨by rfl, ?_⟩) hHeld ?_
            · intro w hSw
              clear hSw
              go_simp
              try (first | exact HLL.out | omega)
            try simp only [Act.put, List.setIfInBounds_toArray, List.set_cons_zero, List.set_cons_succ]
            refine wpAnyH_take (i := 24) (oi := { dst := some 48, op := Op.pick (Operand.tmp 34) (Operand.const (Value.bool true)) (Operand.tmp 47), type := 4, pos := "ref.go:52", after := #[{ on := 10, ground := Ground.data }, { on := 23, ground := Ground.data }, { on := 7, ground := Ground.guard }], guard := some (7, true) }) (v := ?_) rfl (by kernel_rfl) (by kernel_rfl) (by kernel_rfl) (fun _ _ _ h => h) (Or.inl ⟨by rfl, ?_⟩) hHeld ?_
            rotate_left
            · intro w hSw
              clear hSw
              go_simp
              try with_reducible rfl
            try simp only [Act.put, List.setIfInBounds_toArray, List.set_cons_zero, List.set_cons_succ]
            refine wpAnyH_take (i := 25) (oi := { dst := some 49, op := Op.pick (Operand.tmp 31) (Operand.tmp 48) (Operand.const (Value.bool false)), type := 4, pos := "ref.go:52", after := #[{ on := 7, ground := Ground.data }, { on := 24, ground := Ground.data }], guard := none }) (v := ?_) rfl (by kernel_rfl) (by kernel_rfl) (by kernel_rfl) (fun _ _ _ h => h) (Or.inl ⟨by rfl, ?_⟩) hHeld ?_
            rotate_left
            · intro w hSw
              clear hSw
              go_simp
              try with_reducible rfl
            try simp only [Act.put, List.setIfInBounds_toArray, List.set_cons_zero, List.set_cons_succ]
            refine wpAnyH_done (by kernel_rfl) ?_ _
            have HB8 : Hid (Below W5.heap.size W5 w9) := HBr.out.trans (hHeld.mono HBr.out.size)
            clear hHeld HB9
            go_wp2_with fail
            exact ⟨⟨k + 1, (k : Nat), by omega, by go_num, rfl, HB8.out, HB2⟩, by simp [intOf]; omega⟩
          · have HB2 : Hid (BestI L (⟨2, 0, next, 128⟩ : Tp) (k + 1) (j : Nat)) := BestI.less j1 j2 j3 j4 HY.out hl
            have HLL : Hid (q.len ≤ z.1.len) := by
              show q.len ≤ z.1.len
              omega
            clear HBI j1 j2 j3 j4 hl
            go_wp2_with fail
            refine wp_region_held_drew (S := fun w' => Below wr.heap.size wr w') (by kernel_rfl) (below_drewN (Below.refl _ _) 1) (fun hHeld => ?_)
            refine wpAnyH_take (i := 0) (oi := { dst := some 24, op := Op.move (Operand.tmp 0), type := 38, pos := "ref.go:52", after := #[], guard := none }) (v := ?_) rfl (by kernel_rfl) (by kernel_rfl) (by kernel_rfl) (fun _ _ _ h => h) (Or.inl ⟨by rfl, ?_⟩) hHeld ?_
            rotate_left
            · intro w hSw
              clear hSw
              go_simp
              try with_reducible rfl
            try simp only [Act.put, List.setIfInBounds_toArray, List.set_cons_zero, List.set_cons_succ]
            refine wpAnyH_take (i := 1) (oi := { dst := some 25, op := Op.move (Operand.tmp 9), type := 3, pos := "ref.go:52", after := #[], guard := none }) (v := ?_) rfl (by kernel_rfl) (by kernel_rfl) (by kernel_rfl) (fun _ _ _ h => h) (Or.inl ⟨by rfl, ?_⟩) hHeld ?_
            rotate_left
            · intro w hSw
              clear hSw
              go_simp
              try with_reducible rfl
            try simp only [Act.put, List.setIfInBounds_toArray, List.set_cons_zero, List.set_cons_succ]
            refine wpAnyH_take (i := 2) (oi := { dst := some 26, op := Op.indexAddr 38 (Operand.tmp 24) (Operand.tmp 25), type := 0, pos := "ref.go:52", after := #[{ on := 0, ground := Ground.data }, { on := 1, ground := Ground.data }], guard := none }) (v := ?_) rfl (by kernel_rfl) (by kernel_rfl) (by kernel_rfl) (fun _ _ _ h => h) (Or.inl ⟨by rfl, ?_⟩) hHeld ?_
            rotate_left
            · intro w hSw
              clear hSw
              go_simp
              try with_reducible rfl
            try simp only [Act.put, List.setIfInBounds_toArray, List.set_cons_zero, List.set_cons_succ]
            refine wpAnyH_take (i := 3) (oi := { dst := some 27, op := Op.fieldAddr 60 (Operand.tmp 26) 0, type := 0, pos := "ref.go:52", after := #[{ on := 2, ground := Ground.data }], guard := none }) (v := ?_) rfl (by kernel_rfl) (by kernel_rfl) (by kernel_rfl) (fun _ _ _ h => h) (Or.inl ⟨by rfl, ?_⟩) hHeld ?_
            rotate_left
            · intro w hSw
              clear hSw
              go_simp
              try with_reducible rfl
            try simp only [Act.put, List.setIfInBounds_toArray, List.set_cons_zero, List.set_cons_succ]
            refine wpAnyH_take (i := 4) (oi := { dst := some 28, op := Op.load 30 (Operand.tmp 27), type := 30, pos := "ref.go:52", after := #[{ on := 3, ground := Ground.data }], guard := none }) (v := ?_) rfl (by kernel_rfl) (by kernel_rfl) (by kernel_rfl) (fun _ _ _ h => h) (Or.inl ⟨by rfl, ?_⟩) hHeld ?_
            rotate_left
            · intro w hSw
              obtain ⟨l0, l1, l2, l3, l4⟩ := HL5.out.read HY.out (HBr.out.trans (hSw.mono HBr.out.size))
              obtain ⟨q0, q1, q2, q3, _⟩ := c4_at (HQ.out.below (HBr.out.trans (hSw.mono HBr.out.size)) HQ.out.lt)
              obtain ⟨m0, m1, m2, m3, m4⟩ := HL5.out.read HJ2.out (HBr.out.trans (hSw.mono HBr.out.size))
              go_simp
              try with_reducible rfl
            try simp only [Act.put, List.setIfInBounds_toArray, List.set_cons_zero, List.set_cons_succ]
            refine wpAnyH_take (i := 5) (oi := { dst := some 29, op := Op.load 30 (Operand.tmp 6), type := 30, pos := "ref.go:52", after := #[], guard := none }) (v := ?_) rfl (by kernel_rfl) (by kernel_rfl) (by kernel_rfl) (fun _ _ _ h => h) (Or.inl ⟨by rfl, ?_⟩) hHeld ?_
            rotate_left
            · intro w hSw
              obtain ⟨l0, l1, l2, l3, l4⟩ := HL5.out.read HY.out (HBr.out.trans (hSw.mono HBr.out.size))
              obtain ⟨q0, q1, q2, q3, _⟩ := c4_at (HQ.out.below (HBr.out.trans (hSw.mono HBr.out.size)) HQ.out.lt)
              obtain ⟨m0, m1, m2, m3, m4⟩ := HL5.out.read HJ2.out (HBr.out.trans (hSw.mono HBr.out.size))
              go_simp
              try with_reducible rfl
            try simp only [Act.put, List.setIfInBounds_toArray, List.set_cons_zero, List.set_cons_succ]
            refine wpAnyH_ready (rs := [6]) (by kernel_rfl) (by simp) ?_
            refine AllReadyH.cons (o := { dst := some 30, op := Op.call { callee := Callee.value (Operand.func 29), args := #[Operand.tmp 28, Operand.tmp 29], argTypes := #[30, 30] }, type := 4, pos := "ref.go:52", after := #[{ on := 4, ground := Ground.data }, { on := 5, ground := Ground.data }], guard := none }) rfl (fun K hK => ?_) AllReadyH.nil
            go_simp
            refine (HRC.out q _ HYO.out).mono ?_
            rintro e w9 ⟨hb9, r, rfl, hr⟩
            obtain rfl : r = true := hr.2 HCV.out
            have HB9 := Lib.hid hb9
            clear hr hb9
            go_wp2_with fail
            refine hK.out _ _ (hHeld.trans (HB9.out.mono hHeld.size)) (fun hHeld => ?_)
            clear hK K
            try simp only [Act.put, List.setIfInBounds_toArray, List.set_cons_zero, List.set_cons_succ]
            refine wpAnyH_take (i := 7) (oi := { dst := some 31, op := Op.move (Operand.tmp 30), type := 4, pos := "ref.go:52", after := #[{ on := 6, ground := Ground.data }, { on := 6, ground := Ground.chain }], guard := none }) (v := ?_) rfl (by kernel_rfl) (by kernel_rfl) (by kernel_rfl) (fun _ _ _ h => h) (Or.inl ⟨by rfl, ?_⟩) hHeld ?_
            rotate_left
            · intro w hSw
              clear hSw
              go_simp
              try with_reducible rfl
            try simp only [Act.put, List.setIfInBounds_toArray, List.set_cons_zero, List.set_cons_succ]
            refine wpAnyH_take (i := 8) (oi := { dst := some 32, op := Op.move (Operand.tmp 8), type := 3, pos := "ref.go:52", after := #[{ on := 7, ground := Ground.guard }], guard := some (7, true) }) (v := ?_) rfl (by kernel_rfl) (by kernel_rfl) (by kernel_rfl) (fun _ _ _ h => h) (Or.inl ⟨by rfl, ?_⟩) hHeld ?_
            rotate_left
            · intro w hSw
              clear hSw
              go_simp
              try with_reducible rfl
            try simp only [Act.put, List.setIfInBounds_toArray, List.set_cons_zero, List.set_cons_succ]
            refine wpAnyH_take (i := 9) (oi := { dst := some 33, op := Op.binOp BinOp.lss 3 (Operand.tmp 32) (Operand.const (Value.int IntKind.i64 0)) 3, type := 4, pos := "ref.go:52", after := #[{ on := 8, ground := Ground.data }, { on := 7, ground := Ground.guard }], guard := some (7, true) }) (v := .bool false) rfl (by kernel_rfl) (by kernel_rfl) (by kernel_rfl) (fun _ _ _ h => h) (Or.inl ⟨by rfl, ?_⟩) hHeld ?_
            · intro w hSw
              clear hSw
              go_simp
              try (first | omega | simp)
            try simp only [Act.put, List.setIfInBounds_toArray, List.set_cons_zero, List.set_cons_succ]
            refine wpAnyH_take (i := 10) (oi := { dst := some 34, op := Op.move (Operand.tmp 33), type := 4, pos := "ref.go:52", after := #[{ on := 9, ground := Ground.data }, { on := 7, ground := Ground.chain }, { on := 7, ground := Ground.guard }], guard := some (7, true) }) (v := ?_) rfl (by kernel_rfl) (by kernel_rfl) (by kernel_rfl) (fun _ _ _ h => h) (Or.inl ⟨by rfl, ?_⟩) hHeld ?_
            rotate_left
            · intro w hSw
              clear hSw
              go_simp
              try with_reducible rfl
            try simp only [Act.put, List.setIfInBounds_toArray, List.set_cons_zero, List.set_cons_succ]
            refine wpAnyH_take (i := 11) (oi := { dst := some 35, op := Op.move (Operand.tmp 0), type := 38, pos := "ref.go:52", after := #[{ on := 10, ground := Ground.guard }], guard := some (10, false) }) (v := ?_) rfl (by kernel_rfl) (by kernel_rfl) (by kernel_rfl) (fun _ _ _ h => h) (Or.inl ⟨by rfl, ?_⟩) hHeld ?_
            rotate_left
            · intro w hSw
              clear hSw
              go_simp
              try with_reducible rfl
            try simp only [Act.put, List.setIfInBounds_toArray, List.set_cons_zero, List.set_cons_succ]
            refine wpAnyH_take (i := 12) (oi := { dst := some 36, op := Op.move (Operand.tmp 9), type := 3, pos := "ref.go:52", after := #[{ on := 10, ground := Ground.guard }], guard := some (10, false) }) (v := ?_) rfl (by kernel_rfl) (by kernel_rfl) (by kernel_rfl) (fun _ _ _ h => h) (Or.inl ⟨by rfl, ?_⟩) hHeld ?_
            rotate_left
            · intro w hSw
              clear hSw
              go_simp
              try with_reducible rfl
            try simp only [Act.put, List.setIfInBounds_toArray, List.set_cons_zero, List.set_cons_succ]
            refine wpAnyH_take (i := 13) (oi := { dst := some 37, op := Op.indexAddr 38 (Operand.tmp 35) (Operand.tmp 36), type := 0, pos := "ref.go:52", after := #[{ on := 11, ground := Ground.data }, { on := 12, ground := Ground.data }, { on := 10, ground := Ground.guard }], guard := some (10, false) }) (v := ?_) rfl (by kernel_rfl) (by kernel_rfl) (by kernel_rfl) (fun _ _ _ h => h) (Or.inl ⟨by rfl, ?_⟩) hHeld ?_
            rotate_left
            · intro w hSw
              clear hSw
              go_simp
              try with_reducible rfl
            try simp only [Act.put, List.setIfInBounds_toArray, List.set_cons_zero, List.set_cons_succ]
            refine wpAnyH_take (i := 14) (oi := { dst := some 38, op := Op.fieldAddr 60 (Operand.tmp 37) 0, type := 0, pos := "ref.go:52", after := #[{ on := 13, ground := Ground.data }, { on := 10, ground := Ground.guard }], guard := some (10, false) }) (v := ?_) rfl (by kernel_rfl) (by kernel_rfl) (by kernel_rfl) (fun _ _ _ h => h) (Or.inl ⟨by rfl, ?_⟩) hHeld ?_
            rotate_left
            · intro w hSw
              clear hSw
              go_simp
              try with_reducible rfl
            try simp only [Act.put, List.setIfInBounds_toArray, List.set_cons_zero, List.set_cons_succ]
            refine wpAnyH_take (i := 15) (oi := { dst := some 39, op := Op.fieldAddr 30 (Operand.tmp 38) 3, type := 0, pos := "ref.go:52", after := #[{ on := 14, ground := Ground.data }, { on := 10, ground := Ground.guard }], guard := some (10, false) }) (v := ?_) rfl (by kernel_rfl) (by kernel_rfl) (by kernel_rfl) (fun _ _ _ h => h) (Or.inl ⟨by rfl, ?_⟩) hHeld ?_
            rotate_left
            · intro w hSw
              clear hSw
              go_simp
              try with_reducible rfl
            try simp only [Act.put, List.setIfInBounds_toArray, List.set_cons_zero, List.set_cons_succ]
            refine wpAnyH_take (i := 16) (oi := { dst := some 40, op := Op.load 3 (Operand.tmp 39), type := 3, pos := "ref.go:52", after := #[{ on := 15, ground := Ground.data }, { on := 10, ground := Ground.guard }], guard := some (10, false) }) (v := ?_) rfl (by kernel_rfl) (by kernel_rfl) (by kernel_rfl) (fun _ _ _ h => h) (Or.inl ⟨by rfl, ?_⟩) hHeld ?_
            rotate_left
            · intro w hSw
              obtain ⟨l0, l1, l2, l3, l4⟩ := HL5.out.read HY.out (HBr.out.trans (hSw.mono HBr.out.size))
              obtain ⟨q0, q1, q2, q3, _⟩ := c4_at (HQ.out.below (HBr.out.trans (hSw.mono HBr.out.size)) HQ.out.lt)
              obtain ⟨m0, m1, m2, m3, m4⟩ := HL5.out.read HJ2.out (HBr.out.trans (hSw.mono HBr.out.size))
              go_simp
              try with_reducible rfl
            try simp only [Act.put, List.setIfInBounds_toArray, List.set_cons_zero, List.set_cons_succ]
            refine wpAnyH_take (i := 17) (oi := { dst := some 41, op := Op.move (Operand.tmp 0), type := 38, pos := "ref.go:52", after := #[{ on := 10, ground := Ground.guard }], guard := some (10, false) }) (v := ?_) rfl (by kernel_rfl) (by kernel_rfl) (by kernel_rfl) (fun _ _ _ h => h) (Or.inl ⟨by rfl, ?_⟩) hHeld ?_
            rotate_left
            · intro w hSw
              clear hSw
              go_simp
              try with_reducible rfl
            try simp only [Act.put, List.setIfInBounds_toArray, List.set_cons_zero, List.set_cons_succ]
            refine wpAnyH_take (i := 18) (oi := { dst := some 42, op := Op.move (Operand.tmp 8), type := 3, pos := "ref.go:52", after := #[{ on := 10, ground := Ground.guard }], guard := some (10, false) }) (v := ?_) rfl (by kernel_rfl) (by kernel_rfl) (by kernel_rfl) (fun _ _ _ h => h) (Or.inl ⟨by rfl, ?_⟩) hHeld ?_
            rotate_left
            · intro w hSw
              clear hSw
              go_simp
              try with_reducible rfl
            try simp only [Act.put, List.setIfInBounds_toArray, List.set_cons_zero, List.set_cons_succ]
            refine wpAnyH_take (i := 19) (oi := { dst := some 43, op := Op.indexAddr 38 (Operand.tmp 41) (Operand.tmp 42), type := 0, pos := "ref.go:52", after := #[{ on := 17, ground := Ground.data }, { on := 18, ground := Ground.data }, { on := 10, ground := Ground.guard }], guard := some (10, false) }) (v := ?_) rfl (by kernel_rfl) (by kernel_rfl) (by kernel_rfl) (fun _ _ _ h => h) (Or.inl ⟨by rfl, ?_⟩) hHeld ?_
            rotate_left
            · intro w hSw
              clear hSw
              go_simp
              try with_reducible rfl
            try simp only [Act.put, List.setIfInBounds_toArray, List.set_cons_zero, List.set_cons_succ]
            refine wpAnyH_take (i := 20) (oi := { dst := some 44, op := Op.fieldAddr 60 (Operand.tmp 43) 0, type := 0, pos := "ref.go:52", after := #[{ on := 19, ground := Ground.data }, { on := 10, ground := Ground.guard }], guard := some (10, false) }) (v := ?_) rfl (by kernel_rfl) (by kernel_rfl) (by kernel_rfl) (fun _ _ _ h => h) (Or.inl ⟨by rfl, ?_⟩) hHeld ?_
            rotate_left
            · intro w hSw
              clear hSw
              go_simp
              try with_reducible rfl
            try simp only [Act.put, List.setIfInBounds_toArray, List.set_cons_zero, List.set_cons_succ]
            refine wpAnyH_take (i := 21) (oi := { dst := some 45, op := Op.fieldAddr 30 (Operand.tmp 44) 3, type := 0, pos := "ref.go:52", after := #[{ on := 20, ground := Ground.data }, { on := 10, ground := Ground.guard }], guard := some (10, false) }) (v := ?_) rfl (by kernel_rfl) (by kernel_rfl) (by kernel_rfl) (fun _ _ _ h => h) (Or.inl ⟨by rfl, ?_⟩) hHeld ?_
            rotate_left
            · intro w hSw
              clear hSw
              go_simp
              try with_reducible rfl
            try simp only [Act.put, List.setIfInBounds_toArray, List.set_cons_zero, List.set_cons_succ]
            refine wpAnyH_take (i := 22) (oi := { dst := some 46, op := Op.load 3 (Operand.tmp 45), type := 3, pos := "ref.go:52", after := #[{ on := 21, ground := Ground.data }, { on := 10, ground := Ground.guard }], guard := some (10, false) }) (v := ?_) rfl (by kernel_rfl) (by kernel_rfl) (by kernel_rfl) (fun _ _ _ h => h) (Or.inl ⟨by rfl, ?_⟩) hHeld ?_
            rotate_left
            · intro w hSw
              obtain ⟨l0, l1, l2, l3, l4⟩ := HL5.out.read HY.out (HBr.out.trans (hSw.mono HBr.out.size))
              obtain ⟨q0, q1, q2, q3, _⟩ := c4_at (HQ.out.below (HBr.out.trans (hSw.mono HBr.out.size)) HQ.out.lt)
              obtain ⟨m0, m1, m2, m3, m4⟩ := HL5.out.read HJ2.out (HBr.out.trans (hSw.mono HBr.out.size))
              go_simp
              try with_reducible rfl
            try simp only [Act.put, List.setIfInBounds_toArray, List.set_cons_zero, List.set_cons_succ]
            refine wpAnyH_take (i := 23) (oi := { dst := some 47, op := Op.binOp BinOp.gtr 3 (Operand.tmp 40) (Operand.tmp 46) 3, type := 4, pos := "ref.go:52", after := #[{ on := 16, ground := Ground.data }, { on := 22, ground := Ground.data }, { on := 10, ground := Ground.guard }], guard := some (10, false) }) (v := .bool false) rfl (by kernel_rfl) (by kernel_rfl) (by kernel_rfl) (fun _ _ _ h => h) (Or.inl ⟨by rfl, ?_⟩) hHeld ?_
            · intro w hSw
              clear hSw
              go_simp
              try (first | exact HLL.out | omega)
            try simp only [Act.put, List.setIfInBounds_toArray, List.set_cons_zero, List.set_cons_succ]
            refine wpAnyH_take (i := 24) (oi := { dst := some 48, op := Op.pick (Operand.tmp 34) (Operand.const (Value.bool true)) (Operand.tmp 47), type := 4, pos := "ref.go:52", after := #[{ on := 10, ground := Ground.data }, { on := 23, ground := Ground.data }, { on := 7, ground := Ground.guard }], guard := some (7, true) }) (v := ?_) rfl (by kernel_rfl) (by kernel_rfl) (by kernel_rfl) (fun _ _ _ h => h) (Or.inl ⟨by rfl, ?_⟩) hHeld ?_
            rotate_left
            · intro w hSw
              clear hSw
              go_simp
              try with_reducible rfl
            try simp only [Act.put, List.setIfInBounds_toArray, List.set_cons_zero, List.set_cons_succ]
            refine wpAnyH_take (i := 25) (oi := { dst := some 49, op := Op.pick (Operand.tmp 31) (Operand.tmp 48) (Operand.const (Value.bool false)), type := 4, pos := "ref.go:52", after := #[{ on := 7, ground := Ground.data }, { on := 24, ground := Ground.data }], guard := none }) (v := ?_) rfl (by kernel_rfl) (by kernel_rfl) (by kernel_rfl) (fun _ _ _ h => h) (Or.inl ⟨by rfl, ?_⟩) hHeld ?_
            rotate_left
            · intro w hSw
              clear hSw
              go_simp
              try with_reducible rfl
            try simp only [Act.put, List.setIfInBounds_toArray, List.set_cons_zero, List.set_cons_succ]
            refine wpAnyH_done (by kernel_rfl) ?_ _
            have HB8 : Hid (Below W5.heap.size W5 w9) := HBr.out.trans (hHeld.mono HBr.out.size)
            clear hHeld HB9
            go_wp2_with fail
            exact ⟨⟨k + 1, (j : Nat), by omega, by go_num, rfl, HB8.out, HB2⟩, by simp [intOf]; omega⟩
      · have HCV := Lib.hid hc
        have HB2 := Lib.hid (BestI.no HBI.out HY.out hc)
        clear hc
        go_wp2_with fail
        refine wp_region_held_drew (S := fun w' => Below wr.heap.size wr w') (by kernel_rfl) (below_drewN (Below.refl _ _) 1) (fun hHeld => ?_)
        refine wpAnyH_take (i := 0) (oi := { dst := some 24, op := Op.move (Operand.tmp 0), type := 38, pos := "ref.go:52", after := #[], guard := none }) (v := ?_) rfl (by kernel_rfl) (by kernel_rfl) (by kernel_rfl) (fun _ _ _ h => h) (Or.inl ⟨by rfl, ?_⟩) hHeld ?_
        rotate_left
        · intro w hSw
          clear hSw
          go_simp
          try with_reducible rfl
        try simp only [Act.put, List.setIfInBounds_toArray, List.set_cons_zero, List.set_cons_succ]
        refine wpAnyH_take (i := 1) (oi := { dst := some 25, op := Op.move (Operand.tmp 9), type := 3, pos := "ref.go:52", after := #[], guard := none }) (v := ?_) rfl (by kernel_rfl) (by kernel_rfl) (by kernel_rfl) (fun _ _ _ h => h) (Or.inl ⟨by rfl, ?_⟩) hHeld ?_
        rotate_left
        · intro w hSw
          clear hSw
          go_simp
          try with_reducible rfl
        try simp only [Act.put, List.setIfInBounds_toArray, List.set_cons_zero, List.set_cons_succ]
        refine wpAnyH_take (i := 2) (oi := { dst := some 26, op := Op.indexAddr 38 (Operand.tmp 24) (Operand.tmp 25), type := 0, pos := "ref.go:52", after := #[{ on := 0, ground := Ground.data }, { on := 1, ground := Ground.data }], guard := none }) (v := ?_) rfl (by kernel_rfl) (by kernel_rfl) (by kernel_rfl) (fun _ _ _ h => h) (Or.inl ⟨by rfl, ?_⟩) hHeld ?_
        rotate_left
        · intro w hSw
          clear hSw
          go_simp
          try with_reducible rfl
        try simp only [Act.put, List.setIfInBounds_toArray, List.set_cons_zero, List.set_cons_succ]
        refine wpAnyH_take (i := 3) (oi := { dst := some 27, op := Op.fieldAddr 60 (Operand.tmp 26) 0, type := 0, pos := "ref.go:52", after := #[{ on := 2, ground := Ground.data }], guard := none }) (v := ?_) rfl (by kernel_rfl) (by kernel_rfl) (by kernel_rfl) (fun _ _ _ h => h) (Or.inl ⟨by rfl, ?_⟩) hHeld ?_
        rotate_left
        · intro w hSw
          clear hSw
          go_simp
          try with_reducible rfl
        try simp only [Act.put, List.setIfInBounds_toArray, List.set_cons_zero, List.set_cons_succ]
        refine wpAnyH_take (i := 4) (oi := { dst := some 28, op := Op.load 30 (Operand.tmp 27), type := 30, pos := "ref.go:52", after := #[{ on := 3, ground := Ground.data }], guard := none }) (v := ?_) rfl (by kernel_rfl) (by kernel_rfl) (by kernel_rfl) (fun _ _ _ h => h) (Or.inl ⟨by rfl, ?_⟩) hHeld ?_
        rotate_left
        · intro w hSw
          obtain ⟨l0, l1, l2, l3, l4⟩ := HL5.out.read HY.out (HBr.out.trans (hSw.mono HBr.out.size))
          obtain ⟨q0, q1, q2, q3, _⟩ := c4_at (HQ.out.below (HBr.out.trans (hSw.mono HBr.out.size)) HQ.out.lt)
          go_simp
          try with_reducible rfl
        try simp only [Act.put, List.setIfInBounds_toArray, List.set_cons_zero, List.set_cons_succ]
        refine wpAnyH_take (i := 5) (oi := { dst := some 29, op := Op.load 30 (Operand.tmp 6), type := 30, pos := "ref.go:52", after := #[], guard := none }) (v := ?_) rfl (by kernel_rfl) (by kernel_rfl) (by kernel_rfl) (fun _ _ _ h => h) (Or.inl ⟨by rfl, ?_⟩) hHeld ?_
        rotate_left
        · intro w hSw
          obtain ⟨l0, l1, l2, l3, l4⟩ := HL5.out.read HY.out (HBr.out.trans (hSw.mono HBr.out.size))
          obtain ⟨q0, q1, q2, q3, _⟩ := c4_at (HQ.out.below (HBr.out.trans (hSw.mono HBr.out.size)) HQ.out.lt)
          go_simp
          try with_reducible rfl
        try simp only [Act.put, List.setIfInBounds_toArray, List.set_cons_zero, List.set_cons_succ]
        refine wpAnyH_ready (rs := [6]) (by kernel_rfl) (by simp) ?_
        refine AllReadyH.cons (o := { dst := some 30, op := Op.call { callee := Callee.value (Operand.func 29), args := #[Operand.tmp 28, Operand.tmp 29], argTypes := #[30, 30] }, type := 4, pos := "ref.go:52", after := #[{ on := 4, ground := Ground.data }, { on := 5, ground := Ground.data }], guard := none }) rfl (fun K hK => ?_) AllReadyH.nil
        go_simp
        refine (HRC.out q _ HYO.out).mono ?_
        rintro e w9 ⟨hb9, r, rfl, hr⟩
        obtain rfl : r = false := by
          cases r with
          | false => rfl
          | true => exact absurd (hr.1 rfl) HCV.out
        have HB9 := Lib.hid hb9
        clear hr hb9
        go_wp2_with fail
        refine hK.out _ _ (hHeld.trans (HB9.out.mono hHeld.size)) (fun hHeld => ?_)
        clear hK K
        try simp only [Act.put, List.setIfInBounds_toArray, List.set_cons_zero, List.set_cons_succ]
        refine wpAnyH_take (i := 7) (oi := { dst := some 31, op := Op.move (Operand.tmp 30), type := 4, pos := "ref.go:52", after := #[{ on := 6, ground := Ground.data }, { on := 6, ground := Ground.chain }], guard := none }) (v := ?_) rfl (by kernel_rfl) (by kernel_rfl) (by kernel_rfl) (fun _ _ _ h => h) (Or.inl ⟨by rfl, ?_⟩) hHeld ?_
        rotate_left
        · intro w hSw
          clear hSw
          go_simp
          try with_reducible rfl
        try simp only [Act.put, List.setIfInBounds_toArray, List.set_cons_zero, List.set_cons_succ]
        refine wpAnyH_take (i := 8) (oi := { dst := some 32, op := Op.move (Operand.tmp 8), type := 3, pos := "ref.go:52", after := #[{ on := 7, ground := Ground.guard }], guard := some (7, true) }) (v := undef) rfl (by kernel_rfl) (by kernel_rfl) (by kernel_rfl) (fun _ _ _ h => h) (Or.inr ⟨by rfl, rfl⟩) hHeld ?_
        try simp only [Act.put, List.setIfInBounds_toArray, List.set_cons_zero, List.set_cons_succ]
        refine wpAnyH_take (i := 9) (oi := { dst := some 33, op := Op.binOp BinOp.lss 3 (Operand.tmp 32) (Operand.const (Value.int IntKind.i64 0)) 3, type := 4, pos := "ref.go:52", after := #[{ on := 8, ground := Ground.data }, { on := 7, ground := Ground.guard }], guard := some (7, true) }) (v := undef) rfl (by kernel_rfl) (by kernel_rfl) (by kernel_rfl) (fun _ _ _ h => h) (Or.inr ⟨by rfl, rfl⟩) hHeld ?_
        try simp only [Act.put, List.setIfInBounds_toArray, List.set_cons_zero, List.set_cons_succ]
        refine wpAnyH_take (i := 10) (oi := { dst := some 34, op := Op.move (Operand.tmp 33), type := 4, pos := "ref.go:52", after := #[{ on := 9, ground := Ground.data }, { on := 7, ground := Ground.chain }, { on := 7, ground := Ground.guard }], guard := some (7, true) }) (v := undef) rfl (by kernel_rfl) (by kernel_rfl) (by kernel_rfl) (fun _ _ _ h => h) (Or.inr ⟨by rfl, rfl⟩) hHeld ?_
        try simp only [Act.put, List.setIfInBounds_toArray, List.set_cons_zero, List.set_cons_succ]
        refine wpAnyH_take (i := 11) (oi := { dst := some 35, op := Op.move (Operand.tmp 0), type := 38, pos := "ref.go:52", after := #[{ on := 10, ground := Ground.guard }], guard := some (10, false) }) (v := undef) rfl (by kernel_rfl) (by kernel_rfl) (by kernel_rfl) (fun _ _ _ h => h) (Or.inr ⟨by rfl, rfl⟩) hHeld ?_
        try simp only [Act.put, List.setIfInBounds_toArray, List.set_cons_zero, List.set_cons_succ]
        refine wpAnyH_take (i := 12) (oi := { dst := some 36, op := Op.move (Operand.tmp 9), type := 3, pos := "ref.go:52", after := #[{ on := 10, ground := Ground.guard }], guard := some (10, false) }) (v := undef) rfl (by kernel_rfl) (by kernel_rfl) (by kernel_rfl) (fun _ _ _ h => h) (Or.inr ⟨by rfl, rfl⟩) hHeld ?_
        try simp only [Act.put, List.setIfInBounds_toArray, List.set_cons_zero, List.set_cons_succ]
        refine wpAnyH_take (i := 13) (oi := { dst := some 37, op := Op.indexAddr 38 (Operand.tmp 35) (Operand.tmp 36), type := 0, pos := "ref.go:52", after := #[{ on := 11, ground := Ground.data }, { on := 12, ground := Ground.data }, { on := 10, ground := Ground.guard }], guard := some (10, false) }) (v := undef) rfl (by kernel_rfl) (by kernel_rfl) (by kernel_rfl) (fun _ _ _ h => h) (Or.inr ⟨by rfl, rfl⟩) hHeld ?_
        try simp only [Act.put, List.setIfInBounds_toArray, List.set_cons_zero, List.set_cons_succ]
        refine wpAnyH_take (i := 14) (oi := { dst := some 38, op := Op.fieldAddr 60 (Operand.tmp 37) 0, type := 0, pos := "ref.go:52", after := #[{ on := 13, ground := Ground.data }, { on := 10, ground := Ground.guard }], guard := some (10, false) }) (v := undef) rfl (by kernel_rfl) (by kernel_rfl) (by kernel_rfl) (fun _ _ _ h => h) (Or.inr ⟨by rfl, rfl⟩) hHeld ?_
        try simp only [Act.put, List.setIfInBounds_toArray, List.set_cons_zero, List.set_cons_succ]
        refine wpAnyH_take (i := 15) (oi := { dst := some 39, op := Op.fieldAddr 30 (Operand.tmp 38) 3, type := 0, pos := "ref.go:52", after := #[{ on := 14, ground := Ground.data }, { on := 10, ground := Ground.guard }], guard := some (10, false) }) (v := undef) rfl (by kernel_rfl) (by kernel_rfl) (by kernel_rfl) (fun _ _ _ h => h) (Or.inr ⟨by rfl, rfl⟩) hHeld ?_
        try simp only [Act.put, List.setIfInBounds_toArray, List.set_cons_zero, List.set_cons_succ]
        refine wpAnyH_take (i := 16) (oi := { dst := some 40, op := Op.load 3 (Operand.tmp 39), type := 3, pos := "ref.go:52", after := #[{ on := 15, ground := Ground.data }, { on := 10, ground := Ground.guard }], guard := some (10, false) }) (v := undef) rfl (by kernel_rfl) (by kernel_rfl) (by kernel_rfl) (fun _ _ _ h => h) (Or.inr ⟨by rfl, rfl⟩) hHeld ?_
        try simp only [Act.put, List.setIfInBounds_toArray, List.set_cons_zero, List.set_cons_succ]
        refine wpAnyH_take (i := 17) (oi := { dst := some 41, op := Op.move (Operand.tmp 0), type := 38, pos := "ref.go:52", after := #[{ on := 10, ground := Ground.guard }], guard := some (10, false) }) (v := undef) rfl (by kernel_rfl) (by kernel_rfl) (by kernel_rfl) (fun _ _ _ h => h) (Or.inr ⟨by rfl, rfl⟩) hHeld ?_
        try simp only [Act.put, List.setIfInBounds_toArray, List.set_cons_zero, List.set_cons_succ]
        refine wpAnyH_take (i := 18) (oi := { dst := some 42, op := Op.move (Operand.tmp 8), type := 3, pos := "ref.go:52", after := #[{ on := 10, ground := Ground.guard }], guard := some (10, false) }) (v := undef) rfl (by kernel_rfl) (by kernel_rfl) (by kernel_rfl) (fun _ _ _ h => h) (Or.inr ⟨by rfl, rfl⟩) hHeld ?_
        try simp only [Act.put, List.setIfInBounds_toArray, List.set_cons_zero, List.set_cons_succ]
        refine wpAnyH_take (i := 19) (oi := { dst := some 43, op := Op.indexAddr 38 (Operand.tmp 41) (Operand.tmp 42), type := 0, pos := "ref.go:52", after := #[{ on := 17, ground := Ground.data }, { on := 18, ground := Ground.data }, { on := 10, ground := Ground.guard }], guard := some (10, false) }) (v := undef) rfl (by kernel_rfl) (by kernel_rfl) (by kernel_rfl) (fun _ _ _ h => h) (Or.inr ⟨by rfl, rfl⟩) hHeld ?_
        try simp only [Act.put, List.setIfInBounds_toArray, List.set_cons_zero, List.set_cons_succ]
        refine wpAnyH_take (i := 20) (oi := { dst := some 44, op := Op.fieldAddr 60 (Operand.tmp 43) 0, type := 0, pos := "ref.go:52", after := #[{ on := 19, ground := Ground.data }, { on := 10, ground := Ground.guard }], guard := some (10, false) }) (v := undef) rfl (by kernel_rfl) (by kernel_rfl) (by kernel_rfl) (fun _ _ _ h => h) (Or.inr ⟨by rfl, rfl⟩) hHeld ?_
        try simp only [Act.put, List.setIfInBounds_toArray, List.set_cons_zero, List.set_cons_succ]
        refine wpAnyH_take (i := 21) (oi := { dst := some 45, op := Op.fieldAddr 30 (Operand.tmp 44) 3, type := 0, pos := "ref.go:52", after := #[{ on := 20, ground := Ground.data }, { on := 10, ground := Ground.guard }], guard := some (10, false) }) (v := undef) rfl (by kernel_rfl) (by kernel_rfl) (by kernel_rfl) (fun _ _ _ h => h) (Or.inr ⟨by rfl, rfl⟩) hHeld ?_
        try simp only [Act.put, List.setIfInBounds_toArray, List.set_cons_zero, List.set_cons_succ]
        refine wpAnyH_take (i := 22) (oi := { dst := some 46, op := Op.load 3 (Operand.tmp 45), type := 3, pos := "ref.go:52", after := #[{ on := 21, ground := Ground.data }, { on := 10, ground := Ground.guard }], guard := some (10, false) }) (v := undef) rfl (by kernel_rfl) (by kernel_rfl) (by kernel_rfl) (fun _ _ _ h => h) (Or.inr ⟨by rfl, rfl⟩) hHeld ?_
        try simp only [Act.put, List.setIfInBounds_toArray, List.set_cons_zero, List.set_cons_succ]
        refine wpAnyH_take (i := 23) (oi := { dst := some 47, op := Op.binOp BinOp.gtr 3 (Operand.tmp 40) (Operand.tmp 46) 3, type := 4, pos := "ref.go:52", after := #[{ on := 16, ground := Ground.data }, { on := 22, ground := Ground.data }, { on := 10, ground := Ground.guard }], guard := some (10, false) }) (v := undef) rfl (by kernel_rfl) (by kernel_rfl) (by kernel_rfl) (fun _ _ _ h => h) (Or.inr ⟨by rfl, rfl⟩) hHeld ?_
        try simp only [Act.put, List.setIfInBounds_toArray, List.set_cons_zero, List.set_cons_succ]
        refine wpAnyH_take (i := 24) (oi := { dst := some 48, op := Op.pick (Operand.tmp 34) (Operand.const (Value.bool true)) (Operand.tmp 47), type := 4, pos := "ref.go:52", after := #[{ on := 10, ground := Ground.data }, { on := 23, ground := Ground.data }, { on := 7, ground := Ground.guard }], guard := some (7, true) }) (v := undef) rfl (by kernel_rfl) (by kernel_rfl) (by kernel_rfl) (fun _ _ _ h => h) (Or.inr ⟨by rfl, rfl⟩) hHeld ?_
        try simp only [Act.put, List.setIfInBounds_toArray, List.set_cons_zero, List.set_cons_succ]
        refine wpAnyH_take (i := 25) (oi := { dst := some 49, op := Op.pick (Operand.tmp 31) (Operand.tmp 48) (Operand.const (Value.bool false)), type := 4, pos := "ref.go:52", after := #[{ on := 7, ground := Ground.data }, { on := 24, ground := Ground.data }], guard := none }) (v := ?_) rfl (by kernel_rfl) (by kernel_rfl) (by kernel_rfl) (fun _ _ _ h => h) (Or.inl ⟨by rfl, ?_⟩) hHeld ?_
        rotate_left
        · intro w hSw
          clear hSw
          go_simp
          try with_reducible rfl
        try simp only [Act.put, List.setIfInBounds_toArray, List.set_cons_zero, List.set_cons_succ]
        refine wpAnyH_done (by kernel_rfl) ?_ _
        have HB8 : Hid (Below W5.heap.size W5 w9) := HBr.out.trans (hHeld.mono HBr.out.size)
        clear hHeld HB9
        go_wp2_with fail
        exact ⟨⟨k + 1, best, by omega, by go_num, rfl, HB8.out, HB2⟩, by simp [intOf]; omega⟩
    · obtain rfl : L.length = k := by omega
      have HBF : Hid (Below w.heap.size w wr) := HB5.out.trans (HBr.out.mono HB5.out.size)
      rcases HBI.out with ⟨rfl, hno⟩ | ⟨j, z, rfl, j1, j2, j3, j4⟩
      · have HA := Lib.hid (LongM.of_none hno)
        clear hno HBI
        go_wp2_with fail
        go_ret2
        exact ⟨HBF.out, 0, false, rfl, HA.out⟩
      · have HA := Lib.hid (LongM.of_best j2 j3 j4)
        have hj0 : ¬ (j : Int) < 0 := by omega
        obtain ⟨g, cap2, hv, hgl, hnc, hcm, _, _⟩ := HL5.out.at_ j2
        simp only [Value.slice.injEq] at hv
        obtain ⟨rfl, _, rfl⟩ := hv
        unfold maxLen at hcm
        obtain ⟨l0, l1, l2, l3, l4⟩ := HL5.out.read j2 HBr.out
        clear HBI j2 j3 j4
        go_wp2_with fail
        go_ret2
        exact ⟨HBF.out, z.2, true, rfl, HA.out⟩
set_option maxRecDepth 100000 in
set_option maxHeartbeats 4000000 in
theorem rcost_no (L : List (Tp × Int)) (next : ByteArray) (base : Nat) (v : Value) (w : World) (h : WL w base v L) (h4 : ¬ next.size = 4) (h16 : ¬ next.size = 16) :
    Calls Try.prog 15 #[v, .string next] w fun e w' => Below w.heap.size w w' ∧ e = .returned (.tuple #[.int .i64 0, .bool false]) := by
  have HWH := Lib.hid (fun w => rwhole_any next w)
  rw [if_neg h4, if_neg h16, decide_eq_false (fun h => h.elim h4 h16)] at HWH
  obtain ⟨A, cap, rfl⟩ := OwnM.form h
  clear h h4 h16
  go_enter Try.func15, Try.ntmps15
  go_wp2_with fail
  refine (HWH.out _).mono ?_
  rintro e w1 ⟨rfl, hb1⟩
  have HB1 := Lib.hid hb1
  clear hb1 HWH
  go_wp2_with fail
  refine wp_name fun W5 hW5 => ?_
  have HB5 : Hid (Below w.heap.size w W5) := by
    rw [hW5]
    exact HB1.out.alloc HB1.out.size _
  clear hW5 HB1
  go_loopw [9, 8] (fun i bv wr => i = .int .i64 0 ∧ bv = .int .i64 (-1) ∧ wr = W5) (fun _ _ _ => 1)
  case atStart => exact ⟨rfl, rfl, rfl⟩
  case round =>
    obtain ⟨rfl, rfl, rfl⟩ := hrel
    go_wp2_with fail
    go_ret2
    exact ⟨HB5.out, rfl⟩
theorem rcost_any (L : List (Tp × Int)) (next : ByteArray) (base : Nat) (v : Value) (w : World) (h : WL w base v L) (hok : ∀ y ∈ L, y.1.Ok) (hll : L.length ≤ 1000000) :
    Calls Try.prog 15 #[v, .string next] w (RCostPost w L next) := by
  by_cases h4 : next.size = 4
  · refine (rcost_v4 L next base v w h hok hll h4).mono ?_
    rintro e w' ⟨h1, x, b, h2, h3⟩
    refine ⟨h1, x, b, h2, ?_⟩
    unfold CostOf
    rw [if_pos h4]
    exact h3
  · by_cases h16 : next.size = 16
    · refine (rcost_v6 L next base v w h hok hll h16).mono ?_
      rintro e w' ⟨h1, x, b, h2, h3⟩
      refine ⟨h1, x, b, h2, ?_⟩
      unfold CostOf
      rw [if_neg h4, if_pos h16]
      exact h3
    · refine (rcost_no L next base v w h h4 h16).mono ?_
      rintro e w' ⟨h1, h2⟩
      refine ⟨h1, 0, false, h2, ?_⟩
      unfold CostOf
      rw [if_neg h4, if_neg h16]
      exact ⟨rfl, rfl⟩
end Go.Proofs.Ythnjepehiddogaa
