/-
  How a note and a verdict that are parameters look. Conditions: none.
-/
import Derived.Test.YtpipeilmolmfpaaMsgF
import Derived.Test.YtpipeilmolmfpaaOpen
import Derived.Lib.SmallJoins
import Derived.SizedLaws
set_option linter.unusedVariables false
set_option linter.unusedSimpArgs false
namespace Go.Proofs.Ytpipeilmolmfpaa
open Go.RowKit
open Go.ChangeShapes Go.WideShapes Go.ChangeAt Go.Joins

theorem sized_string_in {H : Type} {P : Program} {ts : List TypeId} {ds : List (DataW H)} (h : (DataW.weightsEach P ts ds).all (· ≤ reachBytes) = true) {j : Nat} {t : TypeId} {fs : Array Field} {parts : List (DataW H)}
    (ht : ts[j]? = some t) (hd : ds[j]? = some (.agg parts)) (hu : P.underlying t = some (.struct fs)) {i : Nat} {u : TypeId} {bytes : List UInt8} (hi : (fs.toList.map (·.type))[i]? = some u) (hp : parts[i]? = some (.lit (.string bytes))) : bytes.length ≤ reachBytes := by
  have := List.all_eq_true.1 h _ (DataW.weights_mem_each ht hd bytes.length (by
    simp only [DataW.weights, hu]
    exact DataW.weights_mem_each hi hp _ (by simp [DataW.weights])))
  simpa using this

theorem u8_of {v : Value} (h : IsU8 v) : ∃ c : UInt8, v = .int .u8 c.toNat := by
  obtain ⟨n, rfl, h0, h1⟩ := h
  refine ⟨UInt8.ofNat n.toNat, ?_⟩
  have e : ((UInt8.ofNat n.toNat).toNat : Int) = n := by
    rw [UInt8.toNat_ofNat']
    omega
  rw [e]

section
variable {H : Type} {enc : TypeId × Value → H} {W : World} {held : Bool} {v : Value} {d : DataW H} {p : List MemPlace} {b0 : Nat}
theorem open_note (hval : Value.okWide Try.prog W .any b0 30 v) (h : DataW.Trod enc Try.prog W 0 (fun _ => true) held 30 v d p) :
    ∃ (c s : UInt8) (t : ByteArray) (x y : DataW H), v = .agg #[.int .u8 c.toNat, .int .u8 s.toNat, .string t] ∧ d = .agg [x, y, .lit (.string t.data.toList)] := by
  obtain ⟨v0, v1, v2, y0, y1, y2, n, rfl, rfl, rfl, h0, h1, h2⟩ := open_agg3 Try.underlying30 (by kernel_rfl) (by kernel_rfl) hval h
  obtain ⟨c, rfl⟩ := u8_of (isU8 Try.underlying5 h0)
  obtain ⟨s, rfl⟩ := u8_of (isU8 Try.underlying5 h1)
  obtain ⟨t, hc, hx, hw⟩ := DataW.trod_string Try.underlying9 h2
  simp only [List.cons.injEq, and_true] at hc
  subst hc
  exact ⟨c, s, t, y0.1, y1.1, rfl, by rw [hx]⟩
theorem open_verd (hval : Value.okWide Try.prog W .any b0 25 v) (h : DataW.Trod enc Try.prog W 0 (fun _ => true) held 25 v d p) :
    ∃ (a : Int) (c s : UInt8), v = .agg #[.int .i64 a, .int .u8 c.toNat, .int .u8 s.toNat] := by
  obtain ⟨v0, v1, v2, y0, y1, y2, n, rfl, rfl, rfl, h0, h1, h2⟩ := open_agg3 Try.underlying25 (by kernel_rfl) (by kernel_rfl) hval h
  obtain ⟨a, rfl, _⟩ := isI64 Try.underlying3 h0
  obtain ⟨c, rfl⟩ := u8_of (isU8 Try.underlying5 h1)
  obtain ⟨s, rfl⟩ := u8_of (isU8 Try.underlying5 h2)
  exact ⟨a, c, s, rfl⟩
end

/-- block b holds these cells -/
def CellsAt (w : World) (b : Nat) (cs : Array Value) (T : TypeId) : Prop := w.heap[b]? = some (.cells cs T (0, 0))
theorem CellsAt.lt {w : World} {b : Nat} {cs : Array Value} {T : TypeId} (h : CellsAt w b cs T) : b < w.heap.size := (Array.getElem?_eq_some_iff.1 h).1
theorem CellsAt.new (w : World) (cs : Array Value) (T : TypeId) : CellsAt (w.alloc (.cells cs T)) w.heap.size cs T := heap_alloc_new w _
theorem CellsAt.below {w w' : World} {b B : Nat} {cs : Array Value} {T : TypeId} (h : CellsAt w b cs T) (hg : Below B w w') (hb : b < B) : CellsAt w' b cs T := (hg.block b hb).trans h
theorem CellsAt.alloc {w : World} {b : Nat} {cs : Array Value} {T : TypeId} (h : CellsAt w b cs T) (o : Obj) : CellsAt (w.alloc o) b cs T :=
  h.below ((Below.refl w.heap.size w).alloc (Nat.le_refl _) o) h.lt
theorem CellsAt.c {w : World} {b : Nat} {cs : Array Value} {T : TypeId} (h : CellsAt w b cs T) (i : Nat) : w.cell? ⟨b, i, none⟩ = cs[i]? := cell_of_row w b i _ _ _ h
theorem CellsAt.c3 {w : World} {b : Nat} {x y z : Value} {T : TypeId} (h : CellsAt w b #[x, y, z] T) :
    w.cell? ⟨b, 0, none⟩ = some x ∧ w.cell? ⟨b, 1, none⟩ = some y ∧ w.cell? ⟨b, 2, none⟩ = some z := ⟨(h.c 0).trans rfl, (h.c 1).trans rfl, (h.c 2).trans rfl⟩

end Go.Proofs.Ytpipeilmolmfpaa
