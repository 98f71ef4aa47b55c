/-
  Contract of the closure by which nlri.Encode lays a number. Conditions: sizes.
-/
import Derived.Test.YtocbacpbckejdaaNlD
set_option linter.unusedVariables false
set_option linter.unusedSimpArgs false
namespace Go.Proofs.Ytocbacpbckejdaa
open Go.RowKit

/-- block b holds these cells -/
def CellsAt (w : World) (b : Nat) (cs : Array Value) (T : TypeId) : Prop := w.heap[b]? = some (.cells cs T (0, 0))
section
variable {w w' : World} {b : Nat} {cs : Array Value} {T : TypeId}
theorem CellsAt.lt (h : CellsAt w b cs T) : b < w.heap.size := (Array.getElem?_eq_some_iff.1 h).1
theorem CellsAt.new (w : World) (cs : Array Value) (T : TypeId) : CellsAt (w.alloc (.cells cs T)) w.heap.size cs T := heap_alloc_new w _
theorem CellsAt.below {B : Nat} (h : CellsAt w b cs T) (hg : Below B w w') (hb : b < B) : CellsAt w' b cs T := (hg.block b hb).trans h
theorem CellsAt.alloc (h : CellsAt w b cs T) (o : Obj) : CellsAt (w.alloc o) b cs T :=
  h.below ((Below.refl w.heap.size w).alloc (Nat.le_refl _) o) h.lt
theorem CellsAt.drew (h : CellsAt w b cs T) (n : Nat) : CellsAt (w.drewN n) b cs T := h
theorem CellsAt.c (h : CellsAt w b cs T) (i : Nat) : w.cell? ⟨b, i, none⟩ = cs[i]? := cell_of_row w b i _ _ _ h
theorem CellsAt.one {x : Value} (h : CellsAt w b #[x] T) : w.cell? ⟨b, 0, none⟩ = some x ∧ w.frozen? ⟨b, 0, none⟩ = false :=
  ⟨(h.c 0).trans rfl, by simp only [World.frozen?]; rw [show w.heap[b]? = _ from h]; simp⟩
theorem CellsAt.set {x : Value} (h : CellsAt w b #[x] T) (u : Value) : CellsAt (w.setCell ⟨b, 0, none⟩ u) b #[u] T := by
  unfold CellsAt at *
  simp [World.setCell, Array.getElem?_modify, h]
theorem CellsAt.setOther {p : Addr} (h : CellsAt w b cs T) (hp : b ≠ p.block) (u : Value) : CellsAt (w.setCell p u) b cs T := (Below.heap_setCell w p u b hp).trans h
theorem CellsAt.c4 {x y z u : Value} (h : CellsAt w b #[x, y, z, u] T) : w.cell? ⟨b, 0, none⟩ = some x ∧ w.cell? ⟨b, 1, none⟩ = some y ∧ w.cell? ⟨b, 2, none⟩ = some z ∧ w.cell? ⟨b, 3, none⟩ = some u :=
  ⟨(h.c 0).trans rfl, (h.c 1).trans rfl, (h.c 2).trans rfl, (h.c 3).trans rfl⟩
theorem CellsAt.c6 {x y z u v t : Value} (h : CellsAt w b #[x, y, z, u, v, t] T) : w.cell? ⟨b, 0, none⟩ = some x ∧ w.cell? ⟨b, 1, none⟩ = some y ∧ w.cell? ⟨b, 2, none⟩ = some z ∧ w.cell? ⟨b, 3, none⟩ = some u ∧ w.cell? ⟨b, 4, none⟩ = some v ∧ w.cell? ⟨b, 5, none⟩ = some t :=
  ⟨(h.c 0).trans rfl, (h.c 1).trans rfl, (h.c 2).trans rfl, (h.c 3).trans rfl, (h.c 4).trans rfl, (h.c 5).trans rfl⟩
end
/-- a row of bytes is another block than one of other cells -/
theorem OwnM.other {w : World} {base : Nat} {e T : TypeId} {size n b : Nat} {v : Value} {xs : List Value} {cs : Array Value} (h : OwnM w base e size v n xs) (hc : CellsAt w b cs T) (hne : e ≠ T) : v.ownBlock ≠ some b := fun hv => by
  rcases h.2 with ⟨rfl, _⟩ | ⟨g, cap, cur, fr, rfl, _, hg, _⟩
  · simp [Value.ownBlock] at hv
  · simp [Value.ownBlock] at hv
    subst hv
    rw [show w.heap[g]? = _ from hc] at hg
    injection hg with hg
    injection hg with _ h2
    exact hne h2.symm

theorem putS_bytes (b : ByteArray) (v size k : Nat) : (putS b v size k).data.toList = b.data.toList ++ beB v size k := by
  rw [← putS_list]

/-- older blocks stand as they did, but for those of X -/
structure GrownX (X : Nat → Prop) (w w' : World) : Prop where
  os : w'.os = w.os
  tape : w'.tape = w.tape
  output : w'.output = w.output
  size : w.heap.size ≤ w'.heap.size
  block : ∀ i, i < w.heap.size → ¬ X i → w'.heap[i]? = w.heap[i]?
section
variable {X Y : Nat → Prop} {a b c w w' : World} {B : Nat}
theorem GrownX.trans (h : GrownX X a b) (k : GrownX X b c) : GrownX X a c :=
  ⟨k.os.trans h.os, k.tape.trans h.tape, k.output.trans h.output, Nat.le_trans h.size k.size, fun i hi hx => (k.block i (Nat.lt_of_lt_of_le hi h.size) hx).trans (h.block i hi hx)⟩
theorem GrownX.of_below (k : Below a.heap.size a b) : GrownX X a b := ⟨k.os, k.tape, k.output, k.size, fun i hi _ => k.block i hi⟩
theorem GrownX.below (h : GrownX X b c) (k : Below B a b) (hx : ∀ i, X i → B ≤ i) (hB : B ≤ b.heap.size) : Below B a c :=
  ⟨h.os.trans k.os, h.tape.trans k.tape, h.output.trans k.output, Nat.le_trans k.size h.size, fun i hi => (h.block i (Nat.lt_of_lt_of_le hi hB) (fun hxi => absurd (hx i hxi) (by omega))).trans (k.block i hi)⟩
theorem CellsAt.grownX {i : Nat} {cs : Array Value} {T : TypeId} (h : CellsAt a i cs T) (hg : GrownX X a b) (hx : ¬ X i) : CellsAt b i cs T := (hg.block i h.lt hx).trans h
end

/-- the bytes that are being laid: a cell that holds a slice of the call's own -/
structure OutAt (w : World) (g : Nat) (v : Value) (l : List UInt8) : Prop where
  cell : CellsAt w g #[v] 52
  own : OwnM w (g + 1) 5 1 v l.length (byteVals l)
/-- .. what a step may turn -/
def OutX (g : Nat) (v : Value) : Nat → Prop := fun i => i = g ∨ v.ownBlock = some i
section
variable {w w' : World} {g : Nat} {v : Value} {l : List UInt8}
theorem OutAt.keep {B : Nat} (h : OutAt w g v l) (hb : Below B w w') (hB : w.heap.size ≤ B) : OutAt w' g v l := ⟨h.cell.below hb (Nat.lt_of_lt_of_le h.cell.lt hB), h.own.below hb hB⟩
theorem OutAt.apart {b : Nat} {cs : Array Value} {T : TypeId} (h : OutAt w g v l) (hc : CellsAt w b cs T) (h1 : 5 ≠ T) (h2 : b ≠ g) : ¬ OutX g v b := fun hx => by
  rcases hx with rfl | hx
  · exact h2 rfl
  · exact h.own.other hc h1 hx
theorem OutAt.ge (h : OutAt w g v l) : ∀ i, OutX g v i → g ≤ i := fun i hi => by
  rcases hi with rfl | hi
  · exact Nat.le_refl _
  · have := (h.own.lt i hi).1
    omega
end
/-- a number is laid -/
def NPut (w : World) (g : Nat) (v : Value) (l : List UInt8) (e : Ending) (w' : World) : Prop := e = .returned (.tuple #[]) ∧ ∃ v', OutAt w' g v' l ∧ GrownX (OutX g v) w w'

set_option maxRecDepth 100000 in
theorem nput_any (g : Nat) (v : Value) (l : List UInt8) (x : Int) (size : Nat) (w : World) (ho : OutAt w g v l) (x0 : 0 ≤ x) (x1 : x < 18446744073709551616) (s0 : 1 ≤ size) (s1 : size ≤ 8) (hfit : Lib.bitLen x.toNat ≤ 8 * size) (hl : l.length ≤ 1000000) :
    Calls Try.prog 62 #[.int .u64 x, .int .i64 size, .pointer (some ⟨g, 0, none⟩)] w (NPut w g v (l ++ beB x.toNat size size)) := by
  obtain ⟨i0, hi, hz0, hz1, hz2⟩ := info_parts infoU8
  have HO := Lib.hid ho
  have HP := Lib.hid (fun w => put_ok ⟨#[]⟩ x size w (by decide) x0 x1 s0 s1 hfit)
  have hg := ho.cell.lt
  clear ho hfit
  go_enter Try.func62, Try.ntmps62
  go_wp2_with fail
  refine (HP.out _).mono ?_
  rintro e w1 ⟨rfl, hb⟩
  have HO1 := Lib.hid (HO.out.keep hb (Nat.le_refl _))
  have HB := Lib.hid hb
  have hz := hb.size
  clear hb HP HO
  have hps : (putS ⟨#[]⟩ x.toNat size size).size = size := by rw [putS_size]; show 0 + size = size; omega
  have hpb : byteVals (putS ⟨#[]⟩ x.toNat size size).data.toList = byteVals (beB x.toNat size size) := by rw [putS_bytes]; rfl
  generalize putS ⟨#[]⟩ x.toNat size size = P at hps hpb ⊢
  have HPB := Lib.hid hpb
  have HPS := Lib.hid hps
  clear hpb hps
  obtain ⟨c0, f0⟩ := HO1.out.cell.one
  have hps2 : P.size ≤ 8 := by rw [HPS.out]; exact s1
  go_wp2_with (at_builtin; refine wpList_append_m rfl (.tmp 13) (.tmp 14) 52 9 rfl (g + 1) 5 i0 _ 1 1 Try.underlying52 hi hz0 hz1 hz2 rfl ?a1 v l.length _ rfl HO1.out.own _ P.size (byteVals P.data.toList) rfl ?a2 ?a3 ?a4 ?a5 ?a6)
  case a2 => exact Src.string Try.underlying9
  case a1 => omega
  case a3 => (unfold maxLen; omega)
  case a4 => omega
  case a5 => omega
  intro v' w2 hown hgr hat
  obtain ⟨A', c', rfl⟩ := hown.form
  have hng : v.ownBlock ≠ some g := fun e => by have := (HO1.out.own.lt g e).1; omega
  have hc2 : CellsAt w2 g #[v] 52 := (hgr.block g HO1.out.cell.lt (fun e => hng e.symm)).trans HO1.out.cell
  have hvg : ∀ k, (Value.slice A' (l.length + P.size) c').ownBlock = some k → k ≠ g := fun k hk e => by have := (hown.lt k hk).1; omega
  have HOWN := Lib.hid hown
  have HG := Lib.hid hgr
  have HC2 := Lib.hid hc2
  clear hown hgr c0 f0 hc2 hat
  obtain ⟨c0, f0⟩ := HC2.out.one
  go_wp2_with fail
  go_end0
  refine ⟨rfl, _, ⟨HC2.out.set _, ?_⟩, ?_⟩
  · have h := HOWN.out.setCell (p := ⟨g, 0, none⟩) hvg (.slice A' (l.length + P.size) c')
    rw [HPB.out, ← byteVals_append] at h
    have e : (l ++ beB x.toNat size size).length = l.length + P.size := by rw [List.length_append, beB_length, HPS.out]
    rw [e]
    exact h
  · have h1 : GrownX (OutX g v) w w1 := GrownX.of_below HB.out
    have h2 : GrownX (OutX g v) w1 w2 := ⟨HG.out.os, HG.out.tape, HG.out.output, HG.out.size, fun i hi hx => HG.out.block i hi (fun e => hx (Or.inr e.symm))⟩
    have h3 : GrownX (OutX g v) w2 (w2.setCell ⟨g, 0, none⟩ (.slice A' (l.length + P.size) c')) := ⟨rfl, rfl, rfl, by simp [World.setCell], fun i hi hx => Below.heap_setCell w2 _ _ i (fun e => hx (Or.inl e))⟩
    exact (h1.trans h2).trans h3

end Go.Proofs.Ytocbacpbckejdaa
