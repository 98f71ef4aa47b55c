/-
  Several texts in one.
-/
import Derived.Test.YtkcojblflebomaaGreatNR4
import Derived.Test.YtkcojblflebomaaGreatNR14
import Derived.Test.YtkcojblflebomaaGreatNR6
import Derived.Test.YtkcojblflebomaaGreatNR9
import Derived.Laws.Cover3
import Derived.OrdersHeld
import Derived.Deep.RegionHeld
import Derived.Deep.MidRow
set_option linter.unusedVariables false
set_option linter.unusedSimpArgs false
namespace Go.Proofs.YtkcojblflebomaaGreat
open Go.RowKit Go.MapKept Go.Shelf
open Go.Lib hiding intOf

theorem Rd.src {α : Type} {F : α → List Value} {C : Nat} {P : Program} {t e : TypeId} {w : World} {A : Option Addr} {xs : List α} {c : Nat} (ht : P.underlying t = some (.slice e)) (hC : 0 < C) (hF : ∀ a, (F a).length = C) (h1 : ∀ a, ∀ u ∈ F a, u.oneCell' = true) (h : Rd w A C (xs.map F)) :
    Src P w t C (.slice A xs.length c) xs.length (xs.flatMap F) := by
  have hone : ∀ u ∈ xs.flatMap F, u.oneCell' = true := fun u hu => by
    obtain ⟨a, _, h2⟩ := List.mem_flatMap.1 hu
    exact h1 a u h2
  rcases xs with _ | ⟨x0, r⟩
  · cases A with
    | none => exact Src.nil ht
    | some a => exact Src.slice ht (by simp) (fun j u hu => by cases hu) hone
  · generalize hxs : x0 :: r = xs at *
    have hpos : 0 < (xs.map F).length := by rw [← hxs]; simp
    obtain ⟨b, off, rfl, hb, hc⟩ := h hpos
    refine Src.slice ht (flat_len hF xs) (fun j u hu => ?_) hone
    have hj := (List.getElem?_eq_some_iff.1 hu).1
    rw [flat_len hF xs] at hj
    have hdm := Nat.div_add_mod j C
    have hlt : j / C < xs.length := Nat.div_lt_of_lt_mul (by rw [Nat.mul_comm]; exact hj)
    have hx : xs[j / C]? = some xs[j / C] := List.getElem?_eq_getElem hlt
    have hm : j % C < (F xs[j / C]).length := by rw [hF]; exact Nat.mod_lt _ hC
    have h2 := flat_at hF xs (j / C) _ (j % C) _ hx (List.getElem?_eq_getElem hm)
    rw [show j / C * C + j % C = j by rw [Nat.mul_comm]; exact hdm, hu] at h2
    have h3 := hc (j / C) (F xs[j / C]) (by rw [List.getElem?_map, hx]; rfl) (j % C) _ (List.getElem?_eq_getElem hm)
    rw [add_off, show off + j = off + j / C * C + j % C by rw [Nat.add_assoc, Nat.mul_comm (j / C) C, hdm], h3, Option.some.inj h2]
section
variable {ops : Array Oper} {rest : List Oper} {op : Oper} {a : Act} {Q : Exit → Act → World → Prop}
/-- a list appended to nothing -/
theorem wpList_append_none {α : Type} {F : α → List Value} {C by_ : Nat} {t e : TypeId} (ht : Tryz.prog.underlying t = some (.slice e)) (z : Value) (hi : (Tryz.prog.info? e).map (fun i => (i.zero, i.size, i.bytes)) = some (some z, C, by_)) (hzs : z.cells.size = C) (hC : 0 < C) (hF : ∀ a, (F a).length = C) (h1 : ∀ a, ∀ u ∈ F a, u.oneCell' = true)
    {W : World} (hgd : op.guard = none) (s p : Operand) (ho : op.op = .call { callee := .builtin .append, args := #[s, p], argTypes := #[t, t] }) (hs : a.eval s = .slice none 0 0)
    (A : Option Addr) (c : Nat) (xs : List α) (hp : a.eval p = .slice A xs.length c) (hr : Rd W A C (xs.map F)) (hl : xs.length ≤ maxLen) (hb : xs.length * by_ ≤ 140737488355328)
    (h : ∀ A' c' w', Hid (OwnL w' W.heap.size e C F (.slice A' xs.length c') xs) → Hid (Below W.heap.size W w') → wpList Tryz.prog ops Q rest (a.put op.dst (.slice A' xs.length c')) w') : wpList Tryz.prog ops Q (op :: rest) a W := by
  cases hin : Tryz.prog.info? e with
  | none => rw [hin] at hi; cases hi
  | some i0 =>
    rw [hin] at hi
    simp only [Option.map_some, Option.some.injEq, Prod.mk.injEq] at hi
    obtain ⟨hz0, hz1, hz2⟩ := hi
    refine wpList_append_m hgd s p t t ho W.heap.size e i0 z C by_ ht hin hz0 hz1 hz2 hzs hC _ 0 [] hs (OwnM.nil _ _ _ _) _ xs.length (xs.flatMap F) hp (hr.src ht hC hF h1) (by omega) (by rw [Nat.zero_add]; exact hb) (Nat.le_refl _) ?_
    intro v' w' hv hg hat
    obtain ⟨A', c', rfl⟩ := hv.form
    rw [Nat.zero_add, List.nil_append] at hv
    rw [Nat.zero_add]
    exact h A' c' w' hv ⟨hg.os, hg.tape, hg.output, hg.size, fun i hi => hg.block i hi (by simp [Value.ownBlock])⟩
end
theorem Rw.ones (r : Rw) : ∀ u ∈ r.cs, u.oneCell' = true := by
  intro u hu
  simp only [Rw.cs, List.mem_cons, List.not_mem_nil, or_false] at hu
  rcases hu with rfl | rfl | rfl <;> rfl
theorem u1_ones (n : Nat) : ∀ u ∈ u1 n, u.oneCell' = true := by
  intro u hu
  simp only [u1, List.mem_cons, List.not_mem_nil, or_false] at hu
  rw [hu]
  rfl
theorem x1_ones (n : Nat) : ∀ u ∈ x1 n, u.oneCell' = true := by
  intro u hu
  simp only [x1, List.mem_cons, List.not_mem_nil, or_false] at hu
  rw [hu]
  rfl
theorem Lg.ones (x : Lg) : ∀ u ∈ x.cs, u.oneCell' = true := by
  intro u hu
  simp only [Lg.cs, List.mem_cons, List.not_mem_nil, or_false] at hu
  rcases hu with rfl | rfl | rfl <;> rfl
theorem Sg.ones (x : Sg) : ∀ u ∈ x.cs, u.oneCell' = true := by
  intro u hu
  simp only [Sg.cs, List.mem_cons, List.not_mem_nil, or_false] at hu
  rcases hu with rfl | rfl <;> rfl
theorem infoU64 : (Tryz.prog.info? 57).map (fun i => (i.zero, i.size, i.bytes)) = some (some (.int .u64 0), 1, 8) := by kernel_rfl
theorem infoLg : (Tryz.prog.info? 59).map (fun i => (i.zero, i.size, i.bytes)) = some (some (.agg #[.int .u32 0, .int .u32 0, .int .u32 0]), 3, 12) := by kernel_rfl
section
variable {ops : Array Oper} {rest : List Oper} {op : Oper} {a : Act} {Q : Exit → Act → World → Prop} {W : World}
theorem wpList_own_raws (hgd : op.guard = none) (s p : Operand) (ho : op.op = .call { callee := .builtin .append, args := #[s, p], argTypes := #[22, 22] }) (hs : a.eval s = .slice none 0 0)
    (A : Option Addr) (c : Nat) (xs : List Rw) (hp : a.eval p = .slice A xs.length c) (hr : Hid (Rd W A 3 (xs.map Rw.cs))) (hb : xs.length * 24 ≤ 140737488355328)
    (h : ∀ A' c' w', Hid (OwnL w' W.heap.size 32 3 Rw.cs (.slice A' xs.length c') xs) → Hid (Below W.heap.size W w') → wpList Tryz.prog ops Q rest (a.put op.dst (.slice A' xs.length c')) w') : wpList Tryz.prog ops Q (op :: rest) a W :=
  wpList_append_none Tryz.underlying22 _ infoRaw rfl (by decide) Rw.cs_len Rw.ones hgd s p ho hs A c xs hp hr.out (by unfold maxLen; omega) hb h
end
end Go.Proofs.YtkcojblflebomaaGreat
set_option linter.unusedVariables false
set_option linter.unusedSimpArgs false
namespace Go.Proofs.YtkcojblflebomaaGreat
open Go.RowKit Go.MapKept Go.Shelf
open Go.Lib hiding intOf

section
variable {P : Program} {ops : Array Oper} {Q : Exit → Act → World → Prop} {md : Region.Mode}
/-- whatever order is picked from here on; S holds behind every operation, till one of U has come up -/
def wpAnyU (P : Program) (md : Region.Mode) (ops : Array Oper) (Q : Exit → Act → World → Prop) (U : Nat → Bool) : Nat → (World → Prop) → Array Bool → Act → World → Prop
  | 0, S, listed, a, w => Region.ready md ops listed = [] ∧ Q .normal a w
  | fuel + 1, S, listed, a, w =>
    (Region.ready md ops listed = [] → Q .normal a w) ∧
    ∀ i ∈ Region.ready md ops listed, wpOp P ops Q i (fun a' w' => (U i = false → S w') ∧ wpAnyU P md ops Q U fuel (if U i = true then fun _ => True else S) (listed.setIfInBounds i true) a' w') a w
theorem wpAny_of_U {U : Nat → Bool} : ∀ (fuel : Nat) (S : World → Prop) (listed : Array Bool) (a : Act) (w : World), wpAnyU P md ops Q U fuel S listed a w → wpAny P md ops Q fuel listed a w
  | 0, _, _, _, _, h => h
  | fuel + 1, _, _, _, _, h => ⟨h.1, fun i hi => wpOp_mono (fun a' w' h' => wpAny_of_U fuel _ _ a' w' h'.2) (h.2 i hi)⟩
theorem wpAnyU_first {U : Nat → Bool} {i : Nat} {oi : Oper} {v : Value} (hi : ops[i]? = some oi) (hUi : U i = false) (hsel : ∀ (j : Nat) (o : Oper) cs b, ops[j]? = some o → o.op ≠ .select cs b)
    (hQ : ∀ c a w, Q (.panic c) (a.put oi.dst v) w → Q (.panic c) a w) (hU : ∀ j oj, ops[j]? = some oj → U j = true → ∃ e ∈ oj.after, Region.binds md e = true ∧ e.on = i) {S : World → Prop} :
    ∀ (fuel : Nat) (listed : Array Bool) (a : Act) (w : World),
      (∀ j oj, ops[j]? = some oj → j ≠ i → listed.getD j true = false → (∀ e ∈ oj.after, Region.binds md e = true → e.on ≠ i) → oi.apart ops oj = true) →
      i ∈ Region.ready md ops listed → YieldsIf P ops S oi v a → S w →
      wpAnyU P md ops Q U fuel S (listed.setIfInBounds i true) (a.put oi.dst v) w → wpAnyU P md ops Q U (fuel + 1) S listed a w := by
  intro fuel
  induction fuel with
  | zero =>
    intro listed a w _ hr hy hS H
    refine ⟨fun h => (by rw [h] at hr; cases hr), fun j hj => ?_⟩
    by_cases hji : j = i
    · subst hji
      rw [hUi]
      exact hy.wpOp hi hS ⟨fun _ => hS, H⟩
    · have := ready_mono hj hji
      rw [H.1] at this
      cases this
  | succ fuel ih =>
    intro listed a w hfree hr hy hS H
    refine ⟨fun h => (by rw [h] at hr; cases hr), fun j hj => ?_⟩
    by_cases hji : j = i
    · subst hji
      rw [hUi]
      exact hy.wpOp hi hS ⟨fun _ => hS, H⟩
    · have h1 := H.2 j (ready_mono hj hji)
      obtain ⟨hjun, oj, hoj, hall⟩ := mem_ready.1 hj
      have hnot : ∀ e ∈ oj.after, Region.binds md e = true → e.on ≠ i := fun e he hb heq => by
        have h1 := hall e he hb
        have h0 := (mem_ready.1 hr).1
        rw [heq] at h1
        rcases Nat.lt_or_ge i listed.size with h' | h'
        · simp [h'] at h0 h1; rw [h0] at h1; cases h1
        · simp [Array.getElem?_eq_none h'] at h1
      have hUj : U j = false := by
        cases hq : U j with
        | false => rfl
        | true =>
          obtain ⟨e, he, hb, hon⟩ := hU j oj hoj hq
          exact absurd hon (hnot e he hb)
      rw [hUj] at h1 ⊢
      have h2 := wpOp_putIf hoj (hfree j oj hoj hji hjun hnot) (fun cs b => hsel i oi cs b hi) (fun cs b => hsel j oj cs b hoj) hQ hy h1
      have hfree' : ∀ k ok, ops[k]? = some ok → k ≠ i → (listed.setIfInBounds j true).getD k true = false →
          (∀ e ∈ ok.after, Region.binds md e = true → e.on ≠ i) → oi.apart ops ok = true := fun k ok hk hki hun hno => by
        refine hfree k ok hk hki ?_ hno
        by_cases hjk : j = k
        · subst hjk; exact hjun
        · rw [getD_set_ne true hjk] at hun; exact hun
      refine wpOp_mono (fun a' w' h3 => ⟨h3.2.1, ih (listed.setIfInBounds j true) a' w' hfree' (ready_mono hr (Ne.symm hji)) h3.1 (h3.2.1 rfl) ?_⟩) h2
      rw [Array.setIfInBounds_comm _ _ hji]
      exact h3.2.2
theorem wpAnyU_pure {U : Nat → Bool} {i : Nat} {oi : Oper} {v : Value} (hi : ops[i]? = some oi) (hUi : U i = false) (hsel : ∀ (j : Nat) (o : Oper) cs b, ops[j]? = some o → o.op ≠ .select cs b)
    (hQ : ∀ c a w, Q (.panic c) (a.put oi.dst v) w → Q (.panic c) a w) :
    ∀ (fuel : Nat) (S : World → Prop) (listed : Array Bool) (a : Act) (w : World),
      (∀ j oj, ops[j]? = some oj → j ≠ i → listed.getD j true = false → (∀ e ∈ oj.after, Region.binds md e = true → e.on ≠ i) → oi.apart ops oj = true) →
      i ∈ Region.ready md ops listed → YieldsIf P ops (fun _ => True) oi v a → S w →
      wpAnyU P md ops Q U fuel S (listed.setIfInBounds i true) (a.put oi.dst v) w → wpAnyU P md ops Q U (fuel + 1) S listed a w := by
  intro fuel
  induction fuel with
  | zero =>
    intro S listed a w _ hr hy hS H
    refine ⟨fun h => (by rw [h] at hr; cases hr), fun j hj => ?_⟩
    by_cases hji : j = i
    · subst hji
      rw [hUi]
      exact hy.wpOp hi trivial ⟨fun _ => hS, H⟩
    · have := ready_mono hj hji
      rw [H.1] at this
      cases this
  | succ fuel ih =>
    intro S listed a w hfree hr hy hS H
    refine ⟨fun h => (by rw [h] at hr; cases hr), fun j hj => ?_⟩
    by_cases hji : j = i
    · subst hji
      rw [hUi]
      exact hy.wpOp hi trivial ⟨fun _ => hS, H⟩
    · have h1 := H.2 j (ready_mono hj hji)
      obtain ⟨hjun, oj, hoj, hall⟩ := mem_ready.1 hj
      have hnot : ∀ e ∈ oj.after, Region.binds md e = true → e.on ≠ i := fun e he hb heq => by
        have h1 := hall e he hb
        have h0 := (mem_ready.1 hr).1
        rw [heq] at h1
        rcases Nat.lt_or_ge i listed.size with h' | h'
        · simp [h'] at h0 h1; rw [h0] at h1; cases h1
        · simp [Array.getElem?_eq_none h'] at h1
      have h2 := wpOp_putIf hoj (hfree j oj hoj hji hjun hnot) (fun cs b => hsel i oi cs b hi) (fun cs b => hsel j oj cs b hoj) hQ hy h1
      have hfree' : ∀ k ok, ops[k]? = some ok → k ≠ i → (listed.setIfInBounds j true).getD k true = false →
          (∀ e ∈ ok.after, Region.binds md e = true → e.on ≠ i) → oi.apart ops ok = true := fun k ok hk hki hun hno => by
        refine hfree k ok hk hki ?_ hno
        by_cases hjk : j = k
        · subst hjk; exact hjun
        · rw [getD_set_ne true hjk] at hun; exact hun
      refine wpOp_mono (fun a' w' h3 => ⟨h3.2.1, ih _ (listed.setIfInBounds j true) a' w' hfree' (ready_mono hr (Ne.symm hji)) h3.1 ?_ ?_⟩) h2
      · split
        · trivial
        · rename_i hq
          exact h3.2.1 (by simpa using hq)
      · rw [Array.setIfInBounds_comm _ _ hji]
        exact h3.2.2
/-- does each of U wait for i? -/
def waitsAll (md : Region.Mode) (ops : Array Oper) (U : Nat → Bool) (i : Nat) : Bool :=
  (List.range ops.size).all fun j => !U j || match ops[j]? with
    | some oj => oj.after.any (fun e => Region.binds md e && e.on == i)
    | none => true
theorem waitsAll_spec {U : Nat → Bool} {i : Nat} (h : waitsAll md ops U i = true) (j : Nat) (oj : Oper) (hj : ops[j]? = some oj) (hU : U j = true) : ∃ e ∈ oj.after, Region.binds md e = true ∧ e.on = i := by
  simp only [waitsAll, List.all_eq_true, List.mem_range] at h
  have h1 := h j (Array.getElem?_eq_some_iff.1 hj).1
  simp only [hj, hU, Bool.not_true, Bool.false_or, Array.any_eq_true, Bool.and_eq_true, beq_iff_eq] at h1
  obtain ⟨k, hk, h2, h3⟩ := h1
  exact ⟨_, Array.getElem_mem hk, h2, h3⟩
/-- a read, ahead of all of U -/
theorem wpAnyU_take {U : Nat → Bool} {S : World → Prop} {i : Nat} {oi : Oper} {v : Value} {fuel : Nat} {listed : Array Bool} {a : Act} {w : World} (hi : ops[i]? = some oi) (hUi : U i = false)
    (hs : Region.noSelect ops = true) (hf : Region.free md ops listed i = true) (hr : (Region.ready md ops listed).contains i = true) (hw : waitsAll md ops U i = true)
    (hQ : ∀ c a w, Q (.panic c) (a.put oi.dst v) w → Q (.panic c) a w) (hy : YieldsIf P ops S oi v a) (hS : S w)
    (h : wpAnyU P md ops Q U fuel S (listed.setIfInBounds i true) (a.put oi.dst v) w) : wpAnyU P md ops Q U (fuel + 1) S listed a w :=
  wpAnyU_first hi hUi (Region.noSelect_spec hs) hQ (waitsAll_spec hw) fuel listed a w (Region.free_spec hi hf) (by simpa using hr) hy hS h
/-- what asks no world -/
theorem wpAnyU_takeP {U : Nat → Bool} {S : World → Prop} {i : Nat} {oi : Oper} {v : Value} {fuel : Nat} {listed : Array Bool} {a : Act} {w : World} (hi : ops[i]? = some oi) (hUi : U i = false)
    (hs : Region.noSelect ops = true) (hf : Region.free md ops listed i = true) (hr : (Region.ready md ops listed).contains i = true)
    (hQ : ∀ c a w, Q (.panic c) (a.put oi.dst v) w → Q (.panic c) a w) (hy : YieldsIf P ops (fun _ => True) oi v a) (hS : S w)
    (h : wpAnyU P md ops Q U fuel S (listed.setIfInBounds i true) (a.put oi.dst v) w) : wpAnyU P md ops Q U (fuel + 1) S listed a w :=
  wpAnyU_pure hi hUi (Region.noSelect_spec hs) hQ fuel S listed a w (Region.free_spec hi hf) (by simpa using hr) hy hS h
/-- the one that may come up, none of U -/
theorem wpAnyU_step {U : Nat → Bool} {S : World → Prop} {i : Nat} {o : Oper} {fuel : Nat} {listed : Array Bool} {a : Act} {w : World} (hr : Region.ready md ops listed = [i]) (ho : ops[i]? = some o) (hUi : U i = false)
    (h : ∀ K' : Act → World → Prop, Shut (∀ a w, S w → (S w → wpAnyU P md ops Q U fuel S (listed.setIfInBounds i true) a w) → K' a w) → if Region.wanted o (yielded ops a.tmps) = true then Oper.wp P o a w K' Q else K' (a.put o.dst undef) w) :
    wpAnyU P md ops Q U (fuel + 1) S listed a w := by
  refine ⟨fun h0 => (by rw [hr] at h0; cases h0), fun j hj => ?_⟩
  rw [hr] at hj
  obtain rfl := List.mem_singleton.1 hj
  rw [hUi]
  exact wpOp_step ho (fun K' hK => h K' (fun a w hS hW => hK a w ⟨fun _ => hS, hW hS⟩))
/-- the one that may come up, one of U -/
theorem wpAnyU_last {U : Nat → Bool} {S : World → Prop} {i : Nat} {o : Oper} {fuel : Nat} {listed : Array Bool} {a : Act} {w : World} (hr : Region.ready md ops listed = [i]) (ho : ops[i]? = some o) (hUi : U i = true)
    (h : ∀ K' : Act → World → Prop, Shut (∀ a w, wpAnyU P md ops Q U fuel (fun _ => True) (listed.setIfInBounds i true) a w → K' a w) → if Region.wanted o (yielded ops a.tmps) = true then Oper.wp P o a w K' Q else K' (a.put o.dst undef) w) :
    wpAnyU P md ops Q U (fuel + 1) S listed a w := by
  refine ⟨fun h0 => (by rw [hr] at h0; cases h0), fun j hj => ?_⟩
  rw [hr] at hj
  obtain rfl := List.mem_singleton.1 hj
  rw [hUi]
  exact wpOp_step ho (fun K' hK => h K' (fun a w hW => hK a w ⟨fun hq => (by cases hq), hW⟩))
theorem wpAnyU_done {U : Nat → Bool} {S : World → Prop} {listed : Array Bool} {a : Act} {w : World} (hr : Region.ready md ops listed = []) (h : Q .normal a w) :
    ∀ fuel, wpAnyU P md ops Q U fuel S listed a w
  | 0 => ⟨hr, h⟩
  | _ + 1 => ⟨fun _ => h, by rw [hr]; simp⟩
theorem wp_region_U (U : Nat → Bool) (S : World → Prop) {id : Nat} {a : Act} {w : World} (hm : P.follows .mixedOrders = true) (hS : S w.drew)
    (h : S w.drew → wpAnyU P .any ops Q U ops.size S (Array.replicate ops.size false) a w.drew) : (Code.region id ops true).wp P Q a w :=
  wp_region_any hm (wpAny_of_U _ _ _ _ _ (h hS))
end
theorem grown_setCells (b : Nat) : ∀ (vs : List Value) (o : Nat) (w : World), w.grownBy (w.setCells b o vs) (some b)
  | [], o, w => grown_of_below (Below.refl _ _) _
  | v :: r, o, w => grown_trans (grown_setCell w ⟨b, o, none⟩ v) (grown_setCells b r (o + 1) _)
/-- the block of a list of one's own, whose elements may be stored over -/
theorem OwnM.there {w : World} {base n C : Nat} {e : TypeId} {v : Value} {xs : List Value} (h : OwnM w base e C v n xs) (hn : 0 < n) : ∃ g cap, v = .slice (some ⟨g, 0, none⟩) n cap ∧ base ≤ g ∧ g < w.heap.size ∧ n ≤ cap ∧ cap ≤ maxLen ∧ w.there g 0 (n * C) := by
  obtain ⟨g, cap, hv, hb, hg, h1, h2, hc, hf⟩ := OwnM.cells h hn
  refine ⟨g, cap, hv, hb, hg, h1, h2, fun j hj => ?_⟩
  have hl : j < xs.length := by rw [h.1]; exact hj
  rw [Nat.zero_add]
  exact ⟨by rw [hc j xs[j] (List.getElem?_eq_getElem hl)]; rfl, hf j hj⟩
theorem there_part {w : World} {g n C k : Nat} (h : w.there g 0 (n * C)) (hk : k < n) : w.there g (k * C) C := fun j hj => by
  have h2 : k * C + C ≤ n * C := by rw [← Nat.succ_mul]; exact Nat.mul_le_mul_right C hk
  have := h (k * C + j) (by omega)
  rwa [Nat.zero_add] at this
section
variable {ops : Array Oper} {rest : List Oper} {op : Oper} {a : Act} {Q : Exit → Act → World → Prop}
end
end Go.Proofs.YtkcojblflebomaaGreat
