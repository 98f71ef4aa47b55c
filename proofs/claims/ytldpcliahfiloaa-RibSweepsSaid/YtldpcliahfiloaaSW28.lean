/-
  Several texts in one.
-/
import Derived.Test.YtldpcliahfiloaaSW23
import Derived.Test.YtldpcliahfiloaaSW27
import Derived.Test.YtldpcliahfiloaaSW24
set_option linter.unusedVariables false
set_option linter.unusedSimpArgs false
namespace Go.Proofs.Ytldpcliahfiloaa
open Go.RowKit Go.MapKept Go.Shelf
open Go.Lib hiding intOf

theorem Rd.src {α : Type} {F : α → List Value} {C : Nat} {P : Program} {t e : TypeId} {w : World} {A : Option Addr} {xs : List α} {c : Nat} (ht : P.underlying t = some (.slice e)) (hC : 0 < C) (hF : ∀ a, (F a).length = C) (h1 : ∀ a, ∀ u ∈ F a, u.oneCell' = true) (h : Rd w A C (xs.map F)) :
    Src P w t C (.slice A xs.length c) xs.length (xs.flatMap F) := by
  have hone : ∀ u ∈ xs.flatMap F, u.oneCell' = true := fun u hu => by
    obtain ⟨a, _, h2⟩ := List.mem_flatMap.1 hu
    exact h1 a u h2
  rcases xs with _ | ⟨x0, r⟩
  · cases A with
    | none => exact Src.nil ht
    | some a => exact Src.slice ht (by simp) (fun j u hu => by cases hu) hone
  · generalize hxs : x0 :: r = xs at *
    have hpos : 0 < (xs.map F).length := by rw [← hxs]; simp
    obtain ⟨b, off, rfl, hb, hc⟩ := h hpos
    refine Src.slice ht (flat_len hF xs) (fun j u hu => ?_) hone
    have hj := (List.getElem?_eq_some_iff.1 hu).1
    rw [flat_len hF xs] at hj
    have hdm := Nat.div_add_mod j C
    have hlt : j / C < xs.length := Nat.div_lt_of_lt_mul (by rw [Nat.mul_comm]; exact hj)
    have hx : xs[j / C]? = some xs[j / C] := List.getElem?_eq_getElem hlt
    have hm : j % C < (F xs[j / C]).length := by rw [hF]; exact Nat.mod_lt _ hC
    have h2 := flat_at hF xs (j / C) _ (j % C) _ hx (List.getElem?_eq_getElem hm)
    rw [show j / C * C + j % C = j by rw [Nat.mul_comm]; exact hdm, hu] at h2
    have h3 := hc (j / C) (F xs[j / C]) (by rw [List.getElem?_map, hx]; rfl) (j % C) _ (List.getElem?_eq_getElem hm)
    rw [add_off, show off + j = off + j / C * C + j % C by rw [Nat.add_assoc, Nat.mul_comm (j / C) C, hdm], h3, Option.some.inj h2]
section
variable {ops : Array Oper} {rest : List Oper} {op : Oper} {a : Act} {Q : Exit → Act → World → Prop}
end
theorem Rw.ones (r : Rw) : ∀ u ∈ r.cs, u.oneCell' = true := by
  intro u hu
  simp only [Rw.cs, List.mem_cons, List.not_mem_nil, or_false] at hu
  rcases hu with rfl | rfl | rfl <;> rfl
theorem u1_ones (n : Nat) : ∀ u ∈ u1 n, u.oneCell' = true := by
  intro u hu
  simp only [u1, List.mem_cons, List.not_mem_nil, or_false] at hu
  rw [hu]
  rfl
theorem x1_ones (n : Nat) : ∀ u ∈ x1 n, u.oneCell' = true := by
  intro u hu
  simp only [x1, List.mem_cons, List.not_mem_nil, or_false] at hu
  rw [hu]
  rfl
theorem Lg.ones (x : Lg) : ∀ u ∈ x.cs, u.oneCell' = true := by
  intro u hu
  simp only [Lg.cs, List.mem_cons, List.not_mem_nil, or_false] at hu
  rcases hu with rfl | rfl | rfl <;> rfl
theorem Sg.ones (x : Sg) : ∀ u ∈ x.cs, u.oneCell' = true := by
  intro u hu
  simp only [Sg.cs, List.mem_cons, List.not_mem_nil, or_false] at hu
  rcases hu with rfl | rfl <;> rfl
theorem infoU64 : (Try.prog.info? 23).map (fun i => (i.zero, i.size, i.bytes)) = some (some (.int .u64 0), 1, 8) := by kernel_rfl
theorem infoLg : (Try.prog.info? 82).map (fun i => (i.zero, i.size, i.bytes)) = some (some (.agg #[.int .u32 0, .int .u32 0, .int .u32 0]), 3, 12) := by kernel_rfl
section
variable {ops : Array Oper} {rest : List Oper} {op : Oper} {a : Act} {Q : Exit → Act → World → Prop} {W : World}
end
end Go.Proofs.Ytldpcliahfiloaa
