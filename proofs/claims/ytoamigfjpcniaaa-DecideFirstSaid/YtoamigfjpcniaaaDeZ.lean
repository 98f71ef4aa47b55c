/-
  Paths that are changed where they stand. Conditions: sizes.
-/
import Derived.Test.YtoamigfjpcniaaaDeT
set_option linter.unusedVariables false
set_option linter.unusedSimpArgs false
namespace Go.Proofs.Ytoamigfjpcniaaa
open Go.RowKit Go.MapKept Go.Shelf
open Go.Lib hiding intOf

theorem OwnM.storeS {w : World} {base : Nat} {e : TypeId} {g n cap m s : Nat} {xs : List Value} (h : OwnM w base e s (.slice (some ⟨g, 0, none⟩) n cap) n xs) (u : Value) :
    OwnM (w.setCell ⟨g, m, none⟩ u) base e s (.slice (some ⟨g, 0, none⟩) n cap) n (xs.set m u) := by
  refine ⟨by simpa using h.1, ?_⟩
  rcases h.2 with ⟨h0, _⟩ | ⟨g', cap', cur, fr, hv, hb, hgg, hfr, hnc, hcm, hcs, htake⟩
  · cases h0
  · injection hv with h1 h2 h3
    injection h1 with h1
    injection h1 with h1
    subst h1; subst h3
    refine .inr ⟨g, cap, cur.setIfInBounds m u, fr, rfl, hb, ?_, by simpa using hfr, hnc, hcm, by simpa using hcs, ?_⟩
    · simp [World.setCell, Array.getElem?_modify, hgg]
    · rw [Array.toList_setIfInBounds, List.take_set, htake]
theorem Psv_set : ∀ (xs : List Pt) (i j : Nat) (p P' : Pt) (v : Value), xs[i]? = some p → j < 29 → p.cs.setIfInBounds j v = P'.cs → Psv (xs.set i P') = (Psv xs).set (i * 29 + j) v
  | [], i, j, p, P', v, h, _, _ => by cases h
  | q :: r, 0, j, p, P', v, h, hj, e => by
    obtain rfl : q = p := Option.some.inj h
    unfold Psv
    rw [List.set_cons_zero, List.flatMap_cons, List.flatMap_cons, List.set_append_left _ _ (by rw [Array.length_toList, Pt.cs_size]; omega), ← e, Array.toList_setIfInBounds, Nat.zero_mul, Nat.zero_add]
  | q :: r, i + 1, j, p, P', v, h, hj, e => by
    have ih := Psv_set r i j p P' v h hj e
    unfold Psv at ih ⊢
    have hl : q.cs.toList.length = 29 := by rw [Array.length_toList, Pt.cs_size]
    rw [List.set_cons_succ, List.flatMap_cons, List.flatMap_cons, List.set_append_right _ _ (by rw [hl]; omega), ih, hl]
    congr 2
    omega
/-- a cell of a path in a slice of the call's own is laid -/
theorem wpList_row_set {ops : Array Oper} {rest : List Oper} {op : Oper} {a : Act} {V : World} {Q : Exit → Act → World → Prop} (hgd : op.guard = none) (ty : TypeId) (s q : Operand) (ho : op.op = .store ty s q) (base g n c i j : Nat) (xs : List Pt) (p P' : Pt) (v : Value) (o : Nat)
    (hx : a.eval s = .pointer (some ⟨g, o, none⟩)) (hy : a.eval q = v) (hi : (Try.prog.info? ty).map (·.size) = some 1) (hown : Hid (OwnM V base 38 29 (.slice (some ⟨g, 0, none⟩) n c) n (Psv xs))) (hn : Hid (xs.length = n)) (hp : Hid (xs[i]? = some p)) (hj : j < 29) (hoj : Hid (o = i * 29 + j)) (e : Hid (p.cs.setIfInBounds j v = P'.cs)) (h1 : v.oneCell' = true)
    (h : ∀ V', Hid (OwnM V' base 38 29 (.slice (some ⟨g, 0, none⟩) n c) n (Psv (xs.set i P'))) → Hid (V.grownBy V' (some g)) → wpList Try.prog ops Q rest (a.put op.dst undef) V') : wpList Try.prog ops Q (op :: rest) a V :=
  wpList_plain hgd fun _ hK => by
    have hoj := hoj.out
    subst hoj
    have hil : i < n := by rw [← hn.out]; exact (List.getElem?_eq_some_iff.1 hp.out).1
    have hlt : i * 29 + j < n * 29 := by omega
    obtain ⟨g2, c2, hv, _, hg, _, _, hc, hf⟩ := hown.out.cells (by omega)
    simp only [Value.slice.injEq, Option.some.injEq, Addr.mk.injEq, and_true, true_and] at hv
    obtain ⟨rfl, rfl⟩ := hv
    have hcell : ∃ u, V.cell? ⟨g, i * 29 + j, none⟩ = some u := by
      have hl : j < p.cs.toList.length := by rw [Array.length_toList, Pt.cs_size]; exact hj
      exact ⟨_, hc _ _ (Psv_at xs i p hp.out j _ (List.getElem?_eq_getElem hl))⟩
    obtain ⟨u, hu⟩ := hcell
    have ht : V.there g (i * 29 + j) 1 := fun k hk => by
      obtain rfl : k = 0 := by omega
      exact ⟨by rw [Nat.add_zero, hu]; rfl, hf _ (by omega)⟩
    unfold Oper.wp execOp
    simp only [ho, hx, hy, run_storeAt_one (P := Try.prog) V g (i * 29 + j) ty v ht hi h1, Sem.run_bind, Sem.run_pure, Result.andThen_ok]
    refine hK _ _ (h _ ?_ ⟨rfl, rfl, rfl, by simp [World.setCell], fun k _ hk => Below.heap_setCell V ⟨g, i * 29 + j, none⟩ v k (fun e => hk (by rw [e]))⟩)
    show OwnM _ _ _ _ _ _ _
    rw [Psv_set xs i j p P' v hp.out hj e.out]
    exact hown.out.storeS v
/-- without its Med -/
def noMed (b : Bool) (p : Pt) : Pt := if b = true then { p with hasMed := false, med := 0 } else p
theorem noMed_ok {w : World} {p : Pt} (b : Bool) (h : PtOk w p) : PtOk w (noMed b p) := by
  cases b
  · exact h
  · exact ⟨h.rd, h.segs, h.len, h.cap, h.clen, h.ccap, h.peer, h.addr, h.crd, h.one1, h.one2, h.one3⟩
theorem noMed_nei (b : Bool) (p : Pt) : neiF (noMed b p) = neiF p := by cases b <;> rfl
theorem noMed_bl {b : Bool} {p : Pt} {g : Nat} (h : PtBl (noMed b p) g) : PtBl p g := by
  cases b
  · exact h
  · exact h
/-- the first k without -/
def pzK (b : Bool) (ps : List Pt) (k : Nat) : List Pt := (ps.take k).map (noMed b) ++ ps.drop k
theorem pzK_len (b : Bool) (ps : List Pt) (k : Nat) : (pzK b ps k).length = ps.length := by
  unfold pzK
  rw [List.length_append, List.length_map, List.length_take, List.length_drop]
  omega
theorem pzK_at {b : Bool} {ps : List Pt} {k : Nat} {p : Pt} (h : ps[k]? = some p) : (pzK b ps k)[k]? = some p := by
  have hl := (List.getElem?_eq_some_iff.1 h).1
  unfold pzK
  rw [List.getElem?_append_right (by rw [List.length_map, List.length_take]; omega), List.length_map, List.length_take, Nat.min_eq_left (by omega), Nat.sub_self, List.getElem?_drop, Nat.add_zero]
  exact h
theorem pzK_succ {b : Bool} {ps : List Pt} {k : Nat} {p : Pt} (h : ps[k]? = some p) : pzK b ps (k + 1) = (pzK b ps k).set k (noMed b p) := by
  have hl := (List.getElem?_eq_some_iff.1 h).1
  unfold pzK
  have e1 : ps.drop k = p :: ps.drop (k + 1) := by rw [List.drop_eq_getElem_cons hl]; congr 1; exact (List.getElem?_eq_some_iff.1 h).2
  rw [List.take_add_one, h, Option.toList_some, List.map_append, e1, List.set_append_right _ _ (by rw [List.length_map, List.length_take]; omega), List.length_map, List.length_take, Nat.min_eq_left (by omega), Nat.sub_self, List.set_cons_zero, List.append_assoc]
  rfl
theorem pzK_nei {b : Bool} {ps : List Pt} {k i : Nat} {p : Pt} (h : ps[i]? = some p) : ∃ q, (pzK b ps k)[i]? = some q ∧ neiF q = neiF p ∧ (q = p ∨ q = noMed b p) := by
  have hl := (List.getElem?_eq_some_iff.1 h).1
  unfold pzK
  by_cases hi : i < k
  · refine ⟨noMed b p, ?_, noMed_nei b p, .inr rfl⟩
    rw [List.getElem?_append_left (by rw [List.length_map, List.length_take]; omega), List.getElem?_map, List.getElem?_take, if_pos hi, h]
    rfl
  · refine ⟨p, ?_, rfl, .inl rfl⟩
    rw [List.getElem?_append_right (by rw [List.length_map, List.length_take]; omega), List.length_map, List.length_take, Nat.min_eq_left (by omega), List.getElem?_drop, show k + (i - k) = i by omega]
    exact h
theorem pzK_all (b : Bool) (ps : List Pt) : pzK b ps ps.length = ps.map (noMed b) := by
  unfold pzK
  rw [List.take_length, List.drop_length, List.append_nil]
end Go.Proofs.Ytoamigfjpcniaaa
