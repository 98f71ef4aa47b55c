/-
  The least Med of each neighbour's AS: byMed walked. Conditions: sizes.
-/
import Derived.Test.YtoamigfjpcniaaaDeH
import Derived.Test.YtoamigfjpcniaaaMapsU
set_option linter.unusedVariables false
set_option linter.unusedSimpArgs false
namespace Go.Proofs.Ytoamigfjpcniaaa
open Go.RowKit Go.MapKept Go.Shelf
open Go.Maps (Keyed)
open Go.Lib hiding intOf

theorem u32Law : Keyed Try.prog 28 := Maps.int_keyed Try.underlying28
theorem u32_key (n : Nat) (h : n < 4294967296) : keyOf Try.prog 28 (.int .u32 n) = some (.int .u32 n) :=
  Maps.keyOf_int_mk Try.underlying28 (by simp [Lit.wf, IntKind.min, IntKind.max, IntKind.signed, IntKind.bits]; omega)
theorem zero_u32 (w : World) : (zeroValue 28).run Try.prog w = .ok (.int .u32 0) w := by kernel_rfl
theorem firstF_fits : ∀ (l : List Sg), (∀ s ∈ l, ∀ n ∈ s.as_, n < 4294967296) → (firstF l).getD 0 < 4294967296
  | [], _ => by decide
  | s :: r, h => by
    have ih := firstF_fits r (fun s hs => h s (by simp [hs]))
    unfold firstF
    split
    · exact ih
    · split
      · cases ha : s.as_[0]? with
        | none => decide
        | some n => exact h s (by simp) n (List.mem_of_getElem? ha)
      · decide
theorem neiF_fits {w : World} {p : Pt} (h : PtOk w p) : neiF p < 4294967296 := firstF_fits _ fun s hs => (h.segs s hs).fits

/-- the map, as pairs -/
def lowV (M : List (Nat × Int)) : List (Value × Value) := M.map fun p => (.int .u32 (p.1 : Nat), .int .u32 p.2)
/-- the least of each neighbour among those that came -/
structure LowOk (M : List (Nat × Int)) (pre : List En) : Prop where
  nd : M.Pairwise (fun p q => p.1 ≠ q.1)
  all : ∀ z ∈ pre, ∃ v, (neiF z.p, v) ∈ M ∧ v ≤ medF z.p
  made : ∀ n v, (n, v) ∈ M → ∃ z ∈ pre, neiF z.p = n ∧ medF z.p = v
theorem LowOk.one {M : List (Nat × Int)} {pre : List En} (h : LowOk M pre) {n : Nat} {u v : Int} (hu : (n, u) ∈ M) (hv : (n, v) ∈ M) : u = v := by
  obtain ⟨i, hi, e1⟩ := List.mem_iff_getElem.1 hu
  obtain ⟨j, hj, e2⟩ := List.mem_iff_getElem.1 hv
  have hp := List.pairwise_iff_getElem.1 h.nd
  rcases Nat.lt_trichotomy i j with hlt | heq | hgt
  · exact absurd (by rw [e1, e2]) (hp i j hi hj hlt)
  · subst heq
    rw [e1] at e2
    simpa using e2
  · exact absurd (by rw [e1, e2]) (hp j i hj hi hgt)
theorem LowOk.new {M : List (Nat × Int)} {pre : List En} (h : LowOk M pre) {z : En} (hn : ∀ p ∈ M, p.1 ≠ neiF z.p) : LowOk (M ++ [(neiF z.p, medF z.p)]) (pre ++ [z]) := by
  refine ⟨List.pairwise_append.2 ⟨h.nd, by simp, fun a ha b hb => ?_⟩, fun y hy => ?_, fun n v hm => ?_⟩
  · simp only [List.mem_singleton] at hb
    subst hb
    exact hn a ha
  · rcases List.mem_append.1 hy with hy | hy
    · obtain ⟨v, h1, h2⟩ := h.all y hy
      exact ⟨v, by simp [h1], h2⟩
    · simp only [List.mem_singleton] at hy
      subst hy
      exact ⟨medF y.p, by simp, Int.le_refl _⟩
  · rcases List.mem_append.1 hm with hm | hm
    · obtain ⟨y, h1, h2⟩ := h.made n v hm
      exact ⟨y, by simp [h1], h2⟩
    · simp only [List.mem_singleton, Prod.mk.injEq] at hm
      exact ⟨z, by simp, hm.1.symm, hm.2.symm⟩
theorem LowOk.keep {M : List (Nat × Int)} {pre : List En} (h : LowOk M pre) {z : En} {v : Int} (hm : (neiF z.p, v) ∈ M) (hv : v ≤ medF z.p) : LowOk M (pre ++ [z]) := by
  refine ⟨h.nd, fun y hy => ?_, fun n u hu => ?_⟩
  · rcases List.mem_append.1 hy with hy | hy
    · exact h.all y hy
    · simp only [List.mem_singleton] at hy
      subst hy
      exact ⟨v, hm, hv⟩
  · obtain ⟨y, h1, h2⟩ := h.made n u hu
    exact ⟨y, by simp [h1], h2⟩
theorem LowOk.lower {M : List (Nat × Int)} {pre : List En} (h : LowOk M pre) {z : En} {v : Int} {j : Nat} (hj : M[j]? = some (neiF z.p, v)) (hv : medF z.p < v) : LowOk (M.set j (neiF z.p, medF z.p)) (pre ++ [z]) := by
  obtain ⟨hl, he⟩ := List.getElem?_eq_some_iff.1 hj
  have hp := List.pairwise_iff_getElem.1 h.nd
  have key : ∀ (i : Nat) (hi : i < (M.set j (neiF z.p, medF z.p)).length), ((M.set j (neiF z.p, medF z.p))[i]).1 = (M[i]'(by simpa using hi)).1 := fun i hi => by
    rw [List.getElem_set]
    split
    · next e => subst e; rw [he]
    · rfl
  refine ⟨?_, fun y hy => ?_, fun n u hu => ?_⟩
  · refine List.pairwise_iff_getElem.2 fun i k hi hk hik => ?_
    rw [key, key]
    exact hp i k (by simpa using hi) (by simpa using hk) hik
  · rcases List.mem_append.1 hy with hy | hy
    · obtain ⟨u, h1, h2⟩ := h.all y hy
      by_cases hn : neiF y.p = neiF z.p
      · rw [hn] at h1 ⊢
        have := h.one h1 (List.mem_of_getElem? hj)
        exact ⟨medF z.p, List.mem_of_getElem? (i := j) (by rw [List.getElem?_set_self hl]), by omega⟩
      · obtain ⟨i, hi, e1⟩ := List.mem_iff_getElem.1 h1
        have hij : j ≠ i := fun e => by
          subst e
          rw [he] at e1
          simp only [Prod.mk.injEq] at e1
          exact hn e1.1.symm
        exact ⟨u, List.mem_of_getElem? (i := i) (by rw [List.getElem?_set_ne hij, List.getElem?_eq_getElem hi, e1]), h2⟩
    · simp only [List.mem_singleton] at hy
      subst hy
      exact ⟨medF y.p, List.mem_of_getElem? (i := j) (by rw [List.getElem?_set_self hl]), Int.le_refl _⟩
  · rcases List.mem_or_eq_of_mem_set hu with hu | hu
    · obtain ⟨y, h1, h2⟩ := h.made n u hu
      exact ⟨y, by simp [h1], h2⟩
    · simp only [Prod.mk.injEq] at hu
      exact ⟨z, by simp, hu.1.symm, hu.2.symm⟩
/-- those that byMed leaves -/
def lowAll (xs : List En) (e : En) : Bool := xs.all fun z => decide (neiF z.p = neiF e.p → medF e.p ≤ medF z.p)
def byMedL (xs : List En) : List En := xs.filter (lowAll xs)
theorem LowOk.read {M : List (Nat × Int)} {xs : List En} (h : LowOk M xs) {e : En} {v : Int} (he : e ∈ xs) (hm : (neiF e.p, v) ∈ M) : (medF e.p = v) ↔ lowAll xs e = true := by
  unfold lowAll
  rw [List.all_eq_true]
  constructor
  · intro hv z hz
    refine decide_eq_true fun hn => ?_
    obtain ⟨u, h1, h2⟩ := h.all z hz
    rw [hn] at h1
    have := h.one h1 hm
    omega
  · intro hall
    obtain ⟨z, hz, h1, h2⟩ := h.made _ _ hm
    have h3 := of_decide_eq_true (hall z hz) h1
    obtain ⟨u, h4, h5⟩ := h.all e he
    have := h.one h4 hm
    omega
theorem byMedL_sub {xs : List En} {z : En} (h : z ∈ byMedL xs) : z ∈ xs := (List.mem_filter.1 h).1
theorem byMedL_len (xs : List En) : (byMedL xs).length ≤ xs.length := List.length_filter_le _ _
theorem least_of (f : En → Int) : ∀ xs : List En, xs ≠ [] → ∃ e ∈ xs, ∀ z ∈ xs, f e ≤ f z
  | [], h => absurd rfl h
  | [x], _ => ⟨x, by simp, fun z hz => by simp at hz; subst hz; exact Int.le_refl _⟩
  | x :: y :: r, _ => by
    obtain ⟨e, he, h⟩ := least_of f (y :: r) (by simp)
    by_cases hx : f x ≤ f e
    · exact ⟨x, by simp, fun z hz => by
        rcases List.mem_cons.1 hz with rfl | hz
        · exact Int.le_refl _
        · exact Int.le_trans hx (h z hz)⟩
    · exact ⟨e, List.mem_cons_of_mem _ he, fun z hz => by
        rcases List.mem_cons.1 hz with rfl | hz
        · omega
        · exact h z hz⟩
theorem byMedL_ne {xs : List En} (h : xs ≠ []) : byMedL xs ≠ [] := by
  obtain ⟨e, he, hl⟩ := least_of (fun z => medF z.p) xs h
  intro hn
  have : e ∈ byMedL xs := List.mem_filter.2 ⟨he, by
    unfold lowAll
    rw [List.all_eq_true]
    exact fun z hz => decide_eq_true fun _ => hl z hz⟩
  rw [hn] at this
  cases this

section
variable {ops : Array Oper} {rest : List Oper} {op : Oper} {a : Act} {w : World} {Q : Exit → Act → World → Prop}
theorem range_path {b off : Nat} {x : En} (h : w.rangeAt b off x.cs.toList) : w.rangeAt b off x.p.cs.toList := fun j v hv => h j v (by
  rw [path_in, List.getElem?_append_left (List.getElem?_eq_some_iff.1 hv).1]
  exact hv)
/-- an entry's path is loaded -/
theorem wpList_load_path (hgd : op.guard = none) (src : Operand) (ho : op.op = .load 38 src) (b off : Nat) (hx : a.eval src = .pointer (some ⟨b, off, none⟩)) (p : Pt) (hc : w.rangeAt b off p.cs.toList)
    (h : wpList Try.prog ops Q rest (a.put op.dst p.v) w) : wpList Try.prog ops Q (op :: rest) a w := by
  obtain ⟨fs, hu⟩ := path_under
  exact wpList_load_mid hgd 38 src ho b off hx p.cs.toList _ hc hu rfl (by rw [path_size]; rfl) h
/-- .. an entry, under a guard that holds -/
theorem wpList_load_entry_g (hw : Region.wanted op (yielded ops a.tmps) = true) (src : Operand) (ho : op.op = .load 79 src) (b off : Nat) (hx : a.eval src = .pointer (some ⟨b, off, none⟩)) (x : En) (hc : w.rangeAt b off x.cs.toList)
    (h : wpList Try.prog ops Q rest (a.put op.dst (.agg x.cs)) w) : wpList Try.prog ops Q (op :: rest) a w := by
  obtain ⟨fs, hu⟩ := entry_under
  refine wpList_step fun K hK => ?_
  rw [if_pos hw]
  exact wp_load_mid 79 src ho b off hx x.cs.toList _ hc hu rfl (by rw [entry_size]; rfl) (hK _ _ h)
end
end Go.Proofs.Ytoamigfjpcniaaa
