/-
  Several texts in one.
-/
import Derived.Test.YtldpcliahfiloaaSW48
import Derived.Test.YtldpcliahfiloaaSW22
import Derived.Test.YtldpcliahfiloaaSW49
set_option linter.unusedVariables false
set_option linter.unusedSimpArgs false
namespace Go.Proofs.Ytldpcliahfiloaa
open Go.RowKit Go.MapKept Go.Shelf
open Go.ChangeShapes Go.WideShapes Go.ChangeAt
open Go.Lib hiding intOf
open Go.Sort hiding Below

/-- a told prefix that came in -/
structure Nr where
  k : Pk
  label : Nat
def Nr.cs (x : Nr) : List Value := [.int .i64 x.k.fam, .int .u64 x.k.rd, .string x.k.addr, .int .i64 x.k.len, .int .u32 (x.k.id : Nat), .int .u32 (x.label : Nat)]
structure Nr.Ok (x : Nr) : Prop where
  k : x.k.Ok
  label : x.label < 4294967296
structure NrsOk (w : World) (A : Option Addr) (cap : Nat) (L : List Nr) : Prop where
  rd : Rd w A 6 (L.map Nr.cs)
  len : L.length ≤ cap
  cap : cap ≤ 9223372036854775807
  ok : ∀ x ∈ L, x.Ok
theorem NrsOk.take {w : World} {A : Option Addr} {c N : Nat} {L : List Nr} (h : NrsOk w A c L) (hN : N ≤ L.length) : NrsOk w A c (L.take N) := by
  refine ⟨fun hl => ?_, by rw [List.length_take]; have := h.len; omega, h.cap, fun r hr => h.ok r (List.mem_of_mem_take hr)⟩
  rw [List.length_map, List.length_take] at hl
  obtain ⟨b, off, hA, hb, hc⟩ := h.rd (by rw [List.length_map]; omega)
  refine ⟨b, off, hA, hb, fun i cs hi j u hu => hc i cs ?_ j u hu⟩
  rw [List.getElem?_map] at hi ⊢
  by_cases hin : i < N
  · rwa [List.getElem?_take_of_lt hin] at hi
  · rw [List.getElem?_take_eq_none (by omega)] at hi
    cases hi
/-- the cells of one, in every world that came of this one -/
theorem NrsOk.row {w : World} {A : Option Addr} {c i m : Nat} {L : List Nr} {x : Nr} (h : NrsOk w A c L) (hx : L[i]? = some x) (hm : w.heap.size ≤ m) :
    ∃ b off, A = some ⟨b, off, none⟩ ∧ b < w.heap.size ∧ ∀ W, Below w.heap.size w W → W.cell? ⟨b, off + i * 6, none⟩ = some (.int .i64 x.k.fam) ∧ W.cell? ⟨b, off + i * 6 + 1, none⟩ = some (.int .u64 x.k.rd) ∧ W.cell? ⟨b, off + i * 6 + 2, none⟩ = some (.string x.k.addr) ∧ W.cell? ⟨b, off + i * 6 + 3, none⟩ = some (.int .i64 x.k.len) ∧ W.cell? ⟨b, off + i * 6 + 4, none⟩ = some (.int .u32 (x.k.id : Nat)) ∧ W.cell? ⟨b, off + i * 6 + 5, none⟩ = some (.int .u32 (x.label : Nat)) := by
  obtain ⟨b, off, hA, hb, hc⟩ := h.rd.at_ (i := i) (cs := x.cs) (by rw [List.getElem?_map, hx]; rfl)
  refine ⟨b, off, hA, hb, fun W hW => ?_⟩
  have g := fun j u hu => (hW.cell (p := ⟨b, off + i * 6 + j, none⟩) hb).trans (hc j u hu)
  exact ⟨g 0 _ rfl, g 1 _ rfl, g 2 _ rfl, g 3 _ rfl, g 4 _ rfl, g 5 _ rfl⟩
section
variable {H : Type} {enc : TypeId × Value → H} {w : World} {held : Bool}
set_option maxRecDepth 100000 in
theorem open_nrs {fuel : Nat} {v : Value} {x : DataW H × List MemPlace} (h : DataW.trod enc Try.prog w 0 (fun _ => true) held fuel 22 [v] = some x) (hw : Light Try.prog 22 x.1) :
    ∃ (A : Option Addr) (l : List Nr) (cap : Nat), v = .slice A l.length cap ∧ NrsOk w A cap l := by
  obtain ⟨A, l, cap, h1, h2, h3, h4, h5, h6⟩ := open_list Nr.cs (fun r => r.Ok) Try.underlying22 (C := 6) (by kernel_rfl) (by decide) (fun _ => rfl) (fun n cs y hl ht hwy => by
    match cs, hl with
    | [u0, u1, u2, u3, u4, u5], _ =>
      obtain ⟨_, _, fp, gp⟩ := trod_field Try.underlying32 ht hwy 0 29 0 4 ⟨_, rfl, rfl, rfl⟩ (by kernel_rfl)
      obtain ⟨_, _, f4, _⟩ := trod_field Try.underlying32 ht hwy 1 30 4 1 ⟨_, rfl, rfl, rfl⟩ (by kernel_rfl)
      obtain ⟨_, _, f5, _⟩ := trod_field Try.underlying32 ht hwy 2 30 5 1 ⟨_, rfl, rfl, rfl⟩ (by kernel_rfl)
      simp only [List.drop_succ_cons, List.drop_zero, List.take_succ_cons, List.take_zero] at fp f4 f5
      obtain ⟨_, _, f0, _⟩ := trod_field Try.underlying29 fp gp 0 3 0 1 ⟨_, rfl, rfl, rfl⟩ (by kernel_rfl)
      obtain ⟨_, _, f1, _⟩ := trod_field Try.underlying29 fp gp 1 23 1 1 ⟨_, rfl, rfl, rfl⟩ (by kernel_rfl)
      obtain ⟨_, _, f2, g2⟩ := trod_field Try.underlying29 fp gp 2 9 2 1 ⟨_, rfl, rfl, rfl⟩ (by kernel_rfl)
      obtain ⟨_, _, f3, _⟩ := trod_field Try.underlying29 fp gp 3 3 3 1 ⟨_, rfl, rfl, rfl⟩ (by kernel_rfl)
      simp only [List.drop_succ_cons, List.drop_zero, List.take_succ_cons, List.take_zero] at f0 f1 f2 f3
      obtain ⟨z0, rfl, p0, q0⟩ := isI64 Try.underlying3 f0
      obtain ⟨z1, rfl, p1, q1⟩ := isU64 Try.underlying23 f1
      obtain ⟨s, e2, d2, s2⟩ := DataW.trod_string Try.underlying9 f2
      simp only [List.cons.injEq, and_true] at e2
      subst e2
      obtain ⟨z3, rfl, p3, q3⟩ := isI64 Try.underlying3 f3
      obtain ⟨z4, rfl, p4, q4⟩ := isU32 Try.underlying30 f4
      obtain ⟨z5, rfl, p5, q5⟩ := isU32 Try.underlying30 f5
      obtain ⟨z4, rfl⟩ := Int.eq_ofNat_of_zero_le p4
      obtain ⟨z5, rfl⟩ := Int.eq_ofNat_of_zero_le p5
      have hs : s.size ≤ 140737488351232 := g2 _ (by rw [d2]; simp [DataW.weights])
      exact ⟨⟨⟨z0, z1, s, z3, z4⟩, z5⟩, rfl, ⟨⟨by show -9223372036854775808 ≤ z0 ∧ z0 ≤ 9223372036854775807; omega, by show 0 ≤ z1 ∧ z1 < 18446744073709551616; omega, by show s.size ≤ 9223372036854775807; omega, by show -9223372036854775808 ≤ z3 ∧ z3 ≤ 9223372036854775807; omega, by show z4 < 4294967296; omega⟩, by show z5 < 4294967296; omega⟩⟩) h hw
  exact ⟨A, l, cap, h1, ⟨h2, h4, h5, h3⟩⟩
end
end Go.Proofs.Ytldpcliahfiloaa
