/-
  Several texts in one.
-/
import Derived.Test.YtldpcliahfiloaaKW48
import Derived.Test.YtldpcliahfiloaaKW15
import Derived.SizedLaws
import Derived.Test.YtldpcliahfiloaaKW49
set_option linter.unusedVariables false
set_option linter.unusedSimpArgs false
namespace Go.Proofs.Ytldpcliahfiloaa
open Go.RowKit Go.MapKept Go.Shelf
open Go.ChangeShapes Go.WideShapes Go.ChangeAt
open Go.Lib hiding intOf
open Go.Sort hiding Below

/-- a told prefix that came in -/
structure Nr where
  k : Pk
  label : Nat
def Nr.cs (x : Nr) : List Value := [.int .i64 x.k.fam, .int .u64 x.k.rd, .string x.k.addr, .int .i64 x.k.len, .int .u32 (x.k.id : Nat), .int .u32 (x.label : Nat)]
structure Nr.Ok (x : Nr) : Prop where
  k : x.k.Ok
  label : x.label < 4294967296
structure NrsOk (w : World) (A : Option Addr) (cap : Nat) (L : List Nr) : Prop where
  rd : Rd w A 6 (L.map Nr.cs)
  len : L.length ≤ cap
  cap : cap ≤ 9223372036854775807
  ok : ∀ x ∈ L, x.Ok
theorem NrsOk.take {w : World} {A : Option Addr} {c N : Nat} {L : List Nr} (h : NrsOk w A c L) (hN : N ≤ L.length) : NrsOk w A c (L.take N) := by
  refine ⟨fun hl => ?_, by rw [List.length_take]; have := h.len; omega, h.cap, fun r hr => h.ok r (List.mem_of_mem_take hr)⟩
  rw [List.length_map, List.length_take] at hl
  obtain ⟨b, off, hA, hb, hc⟩ := h.rd (by rw [List.length_map]; omega)
  refine ⟨b, off, hA, hb, fun i cs hi j u hu => hc i cs ?_ j u hu⟩
  rw [List.getElem?_map] at hi ⊢
  by_cases hin : i < N
  · rwa [List.getElem?_take_of_lt hin] at hi
  · rw [List.getElem?_take_eq_none (by omega)] at hi
    cases hi
/-- the cells of one, in every world that came of this one -/
theorem NrsOk.row {w : World} {A : Option Addr} {c i m : Nat} {L : List Nr} {x : Nr} (h : NrsOk w A c L) (hx : L[i]? = some x) (hm : w.heap.size ≤ m) :
    ∃ b off, A = some ⟨b, off, none⟩ ∧ b < w.heap.size ∧ ∀ W, Below w.heap.size w W → W.cell? ⟨b, off + i * 6, none⟩ = some (.int .i64 x.k.fam) ∧ W.cell? ⟨b, off + i * 6 + 1, none⟩ = some (.int .u64 x.k.rd) ∧ W.cell? ⟨b, off + i * 6 + 2, none⟩ = some (.string x.k.addr) ∧ W.cell? ⟨b, off + i * 6 + 3, none⟩ = some (.int .i64 x.k.len) ∧ W.cell? ⟨b, off + i * 6 + 4, none⟩ = some (.int .u32 (x.k.id : Nat)) ∧ W.cell? ⟨b, off + i * 6 + 5, none⟩ = some (.int .u32 (x.label : Nat)) := by
  obtain ⟨b, off, hA, hb, hc⟩ := h.rd.at_ (i := i) (cs := x.cs) (by rw [List.getElem?_map, hx]; rfl)
  refine ⟨b, off, hA, hb, fun W hW => ?_⟩
  have g := fun j u hu => (hW.cell (p := ⟨b, off + i * 6 + j, none⟩) hb).trans (hc j u hu)
  exact ⟨g 0 _ rfl, g 1 _ rfl, g 2 _ rfl, g 3 _ rfl, g 4 _ rfl, g 5 _ rfl⟩
section
variable {H : Type} {enc : TypeId × Value → H} {w : World} {held : Bool}
end
end Go.Proofs.Ytldpcliahfiloaa
