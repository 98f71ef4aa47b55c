/-
  A list appended to nothing: a list of one's own. Conditions: sizes.
-/
import Derived.Test.YtkcojblflebomaaGreatAbA
import Derived.Test.YtkcojblflebomaaGreatAbK
import Derived.Test.YtkcojblflebomaaGreatAbC
set_option linter.unusedVariables false
set_option linter.unusedSimpArgs false
namespace Go.Proofs.YtkcojblflebomaaGreat
open Go.RowKit Go.MapKept Go.Shelf
open Go.Lib hiding intOf

theorem Rd.src {α : Type} {F : α → List Value} {C : Nat} {P : Program} {t e : TypeId} {w : World} {A : Option Addr} {xs : List α} {c : Nat} (ht : P.underlying t = some (.slice e)) (hC : 0 < C) (hF : ∀ a, (F a).length = C) (h1 : ∀ a, ∀ u ∈ F a, u.oneCell' = true) (h : Rd w A C (xs.map F)) :
    Src P w t C (.slice A xs.length c) xs.length (xs.flatMap F) := by
  have hone : ∀ u ∈ xs.flatMap F, u.oneCell' = true := fun u hu => by
    obtain ⟨a, _, h2⟩ := List.mem_flatMap.1 hu
    exact h1 a u h2
  rcases xs with _ | ⟨x0, r⟩
  · cases A with
    | none => exact Src.nil ht
    | some a => exact Src.slice ht (by simp) (fun j u hu => by cases hu) hone
  · generalize hxs : x0 :: r = xs at *
    have hpos : 0 < (xs.map F).length := by rw [← hxs]; simp
    obtain ⟨b, off, rfl, hb, hc⟩ := h hpos
    refine Src.slice ht (flat_len hF xs) (fun j u hu => ?_) hone
    have hj := (List.getElem?_eq_some_iff.1 hu).1
    rw [flat_len hF xs] at hj
    have hdm := Nat.div_add_mod j C
    have hlt : j / C < xs.length := Nat.div_lt_of_lt_mul (by rw [Nat.mul_comm]; exact hj)
    have hx : xs[j / C]? = some xs[j / C] := List.getElem?_eq_getElem hlt
    have hm : j % C < (F xs[j / C]).length := by rw [hF]; exact Nat.mod_lt _ hC
    have h2 := flat_at hF xs (j / C) _ (j % C) _ hx (List.getElem?_eq_getElem hm)
    rw [show j / C * C + j % C = j by rw [Nat.mul_comm]; exact hdm, hu] at h2
    have h3 := hc (j / C) (F xs[j / C]) (by rw [List.getElem?_map, hx]; rfl) (j % C) _ (List.getElem?_eq_getElem hm)
    rw [add_off, show off + j = off + j / C * C + j % C by rw [Nat.add_assoc, Nat.mul_comm (j / C) C, hdm], h3, Option.some.inj h2]
section
variable {ops : Array Oper} {rest : List Oper} {op : Oper} {a : Act} {Q : Exit → Act → World → Prop}
/-- a list appended to nothing -/
theorem wpList_append_none {α : Type} {F : α → List Value} {C by_ : Nat} {t e : TypeId} (ht : Tryz.prog.underlying t = some (.slice e)) (z : Value) (hi : (Tryz.prog.info? e).map (fun i => (i.zero, i.size, i.bytes)) = some (some z, C, by_)) (hzs : z.cells.size = C) (hC : 0 < C) (hF : ∀ a, (F a).length = C) (h1 : ∀ a, ∀ u ∈ F a, u.oneCell' = true)
    {W : World} (hgd : op.guard = none) (s p : Operand) (ho : op.op = .call { callee := .builtin .append, args := #[s, p], argTypes := #[t, t] }) (hs : a.eval s = .slice none 0 0)
    (A : Option Addr) (c : Nat) (xs : List α) (hp : a.eval p = .slice A xs.length c) (hr : Rd W A C (xs.map F)) (hl : xs.length ≤ maxLen) (hb : xs.length * by_ ≤ 140737488355328)
    (h : ∀ A' c' w', Hid (OwnL w' W.heap.size e C F (.slice A' xs.length c') xs) → Hid (Below W.heap.size W w') → wpList Tryz.prog ops Q rest (a.put op.dst (.slice A' xs.length c')) w') : wpList Tryz.prog ops Q (op :: rest) a W := by
  cases hin : Tryz.prog.info? e with
  | none => rw [hin] at hi; cases hi
  | some i0 =>
    rw [hin] at hi
    simp only [Option.map_some, Option.some.injEq, Prod.mk.injEq] at hi
    obtain ⟨hz0, hz1, hz2⟩ := hi
    refine wpList_append_m hgd s p t t ho W.heap.size e i0 z C by_ ht hin hz0 hz1 hz2 hzs hC _ 0 [] hs (OwnM.nil _ _ _ _) _ xs.length (xs.flatMap F) hp (hr.src ht hC hF h1) (by omega) (by rw [Nat.zero_add]; exact hb) (Nat.le_refl _) ?_
    intro v' w' hv hg hat
    obtain ⟨A', c', rfl⟩ := hv.form
    rw [Nat.zero_add, List.nil_append] at hv
    rw [Nat.zero_add]
    exact h A' c' w' hv ⟨hg.os, hg.tape, hg.output, hg.size, fun i hi => hg.block i hi (by simp [Value.ownBlock])⟩
end
theorem Rw.ones (r : Rw) : ∀ u ∈ r.cs, u.oneCell' = true := by
  intro u hu
  simp only [Rw.cs, List.mem_cons, List.not_mem_nil, or_false] at hu
  rcases hu with rfl | rfl | rfl <;> rfl
theorem u1_ones (n : Nat) : ∀ u ∈ u1 n, u.oneCell' = true := by
  intro u hu
  simp only [u1, List.mem_cons, List.not_mem_nil, or_false] at hu
  rw [hu]
  rfl
theorem x1_ones (n : Nat) : ∀ u ∈ x1 n, u.oneCell' = true := by
  intro u hu
  simp only [x1, List.mem_cons, List.not_mem_nil, or_false] at hu
  rw [hu]
  rfl
theorem Lg.ones (x : Lg) : ∀ u ∈ x.cs, u.oneCell' = true := by
  intro u hu
  simp only [Lg.cs, List.mem_cons, List.not_mem_nil, or_false] at hu
  rcases hu with rfl | rfl | rfl <;> rfl
theorem Sg.ones (x : Sg) : ∀ u ∈ x.cs, u.oneCell' = true := by
  intro u hu
  simp only [Sg.cs, List.mem_cons, List.not_mem_nil, or_false] at hu
  rcases hu with rfl | rfl <;> rfl
theorem infoU64 : (Tryz.prog.info? 57).map (fun i => (i.zero, i.size, i.bytes)) = some (some (.int .u64 0), 1, 8) := by kernel_rfl
theorem infoLg : (Tryz.prog.info? 59).map (fun i => (i.zero, i.size, i.bytes)) = some (some (.agg #[.int .u32 0, .int .u32 0, .int .u32 0]), 3, 12) := by kernel_rfl
section
variable {ops : Array Oper} {rest : List Oper} {op : Oper} {a : Act} {Q : Exit → Act → World → Prop} {W : World}
theorem wpList_own_raws (hgd : op.guard = none) (s p : Operand) (ho : op.op = .call { callee := .builtin .append, args := #[s, p], argTypes := #[22, 22] }) (hs : a.eval s = .slice none 0 0)
    (A : Option Addr) (c : Nat) (xs : List Rw) (hp : a.eval p = .slice A xs.length c) (hr : Hid (Rd W A 3 (xs.map Rw.cs))) (hb : xs.length * 24 ≤ 140737488355328)
    (h : ∀ A' c' w', Hid (OwnL w' W.heap.size 32 3 Rw.cs (.slice A' xs.length c') xs) → Hid (Below W.heap.size W w') → wpList Tryz.prog ops Q rest (a.put op.dst (.slice A' xs.length c')) w') : wpList Tryz.prog ops Q (op :: rest) a W :=
  wpList_append_none Tryz.underlying22 _ infoRaw rfl (by decide) Rw.cs_len Rw.ones hgd s p ho hs A c xs hp hr.out (by unfold maxLen; omega) hb h
theorem wpList_own_u32 (hgd : op.guard = none) (s p : Operand) (ho : op.op = .call { callee := .builtin .append, args := #[s, p], argTypes := #[36, 36] }) (hs : a.eval s = .slice none 0 0)
    (A : Option Addr) (c : Nat) (xs : List Nat) (hp : a.eval p = .slice A xs.length c) (hr : Hid (Rd W A 1 (xs.map u1))) (hb : xs.length * 4 ≤ 140737488355328)
    (h : ∀ A' c' w', Hid (OwnL w' W.heap.size 35 1 u1 (.slice A' xs.length c') xs) → Hid (Below W.heap.size W w') → wpList Tryz.prog ops Q rest (a.put op.dst (.slice A' xs.length c')) w') : wpList Tryz.prog ops Q (op :: rest) a W :=
  wpList_append_none Tryz.underlying36 _ infoU32 rfl (by decide) u1_len u1_ones hgd s p ho hs A c xs hp hr.out (by unfold maxLen; omega) hb h
theorem wpList_own_u64 (hgd : op.guard = none) (s p : Operand) (ho : op.op = .call { callee := .builtin .append, args := #[s, p], argTypes := #[37, 37] }) (hs : a.eval s = .slice none 0 0)
    (A : Option Addr) (c : Nat) (xs : List Nat) (hp : a.eval p = .slice A xs.length c) (hr : Hid (Rd W A 1 (xs.map x1))) (hb : xs.length * 8 ≤ 140737488355328)
    (h : ∀ A' c' w', Hid (OwnL w' W.heap.size 57 1 x1 (.slice A' xs.length c') xs) → Hid (Below W.heap.size W w') → wpList Tryz.prog ops Q rest (a.put op.dst (.slice A' xs.length c')) w') : wpList Tryz.prog ops Q (op :: rest) a W :=
  wpList_append_none Tryz.underlying37 _ infoU64 rfl (by decide) x1_len x1_ones hgd s p ho hs A c xs hp hr.out (by unfold maxLen; omega) hb h
theorem wpList_own_lgs (hgd : op.guard = none) (s p : Operand) (ho : op.op = .call { callee := .builtin .append, args := #[s, p], argTypes := #[38, 38] }) (hs : a.eval s = .slice none 0 0)
    (A : Option Addr) (c : Nat) (xs : List Lg) (hp : a.eval p = .slice A xs.length c) (hr : Hid (Rd W A 3 (xs.map Lg.cs))) (hb : xs.length * 12 ≤ 140737488355328)
    (h : ∀ A' c' w', Hid (OwnL w' W.heap.size 59 3 Lg.cs (.slice A' xs.length c') xs) → Hid (Below W.heap.size W w') → wpList Tryz.prog ops Q rest (a.put op.dst (.slice A' xs.length c')) w') : wpList Tryz.prog ops Q (op :: rest) a W :=
  wpList_append_none Tryz.underlying38 _ infoLg rfl (by decide) Lg.cs_len Lg.ones hgd s p ho hs A c xs hp hr.out (by unfold maxLen; omega) hb h
end
end Go.Proofs.YtkcojblflebomaaGreat
