/-
  Several texts in one.
-/
import Derived.Test.YtkcojblflebomaaGreatRows
import Derived.WalkKit
import Derived.ProofKit
import Derived.OpenShut
import Derived.ShutString
import Derived.ChangeOld
import Derived.JoinedCond
import Derived.Below
import Derived.Carry
import Derived.Lib.Hide
import Derived.Deep.Draws
import Derived.Maps.Own
import Derived.Maps.OwnOps
import Derived.WideKeyEntry
import Derived.DeepKeys4
import Derived.Maps.RangeWalk
import Derived.Deep.Slices
import Derived.Deep.Fields
import Derived.ChangeSame
import Derived.ChangeSlices
set_option linter.unusedVariables false
set_option linter.unusedSimpArgs false
namespace Go.Proofs.YtkcojblflebomaaGreat
open Go.ChangeShapes Go.WideShapes Go.ChangeAt Go.RowKit
open Go.ChangeMaps (open_string shut_string)

theorem own : ownKnob Tryz.prog.godebug = none := by kernel_rfl
theorem laidOut : laidOutB Tryz.prog = true := by kernel_rfl

/-- what every reading of arguments met lies below the heap's size -/
theorem trodAll_lt {H : Type} {enc : TypeId × Value → H} {P : Program} {W : World} {base : Nat} {sp : Nat → Bool} {hd : Bool} :
    ∀ {ts : List TypeId} {vs : List Value} {ds : List (DataW H)} {p : List MemPlace}, DataW.TrodAll enc P W base sp hd ts vs ds p → ∀ x ∈ p, x.block < W.heap.size
  | [], [], [], p, h, x, hx => by
    have h : p = [] := h
    subst h; cases hx
  | t :: ts, v :: vs, d :: ds, p, h, x, hx => by
    obtain ⟨p1, q1, ⟨m, hm⟩, hq, rfl⟩ := h
    rcases List.mem_append.1 hx with hx | hx
    · exact DataW.trod_lt m _ _ _ hm x hx
    · exact trodAll_lt hq x hx
  | [], _ :: _, _, _, h, _, _ => h.elim
  | [], [], _ :: _, _, h, _, _ => h.elim
  | _ :: _, [], _, _, h, _, _ => h.elim
  | _ :: _, _ :: _, [], _, h, _, _ => h.elim

/-- all arguments read as they did, where nothing older has turned -/
theorem trodAll_below {H : Type} {enc : TypeId × Value → H} {P : Program} (hl : laidOutB P = true) {W W' : World} (hb : Below W.heap.size W W') :
    ∀ {ts : List TypeId} {vs : List Value} {ds : List (DataW H)} {p : List MemPlace}, (ts.all fun t => P.readableRec t && decide (t < P.types.size)) = true →
      DataW.TrodAll enc P W 0 (fun _ => true) true ts vs ds p → DataW.TrodAll enc P W' 0 (fun b => decide (b < W.heap.size)) true ts vs ds p
  | [], [], [], _, _, h => h
  | t :: ts, v :: vs, d :: ds, p, hr, h => by
    have hlt := trodAll_lt h
    obtain ⟨p1, q1, h1, h2, rfl⟩ := h
    simp only [List.all_cons, Bool.and_eq_true, decide_eq_true_eq] at hr
    exact ⟨p1, q1, Below.trod hl hr.1.1 hr.1.2 h1 hb (fun x hx => hlt x (List.mem_append.2 (.inl hx))), trodAll_below hl hb (by simpa using hr.2) h2, rfl⟩
  | [], _ :: _, _, _, _, h => h.elim
  | [], [], _ :: _, _, _, h => h.elim
  | _ :: _, [], _, _, _, h => h.elim
  | _ :: _, _ :: _, [], _, _, h => h.elim

/-- the post of a law: it answers true, and nothing that was there has turned -/
theorem law_post {H : Type} {enc : TypeId × Value → H} {P : Program} {f : Func} {s : ChangeSpec} {fresh hands : Bool} {W W' : World} {args : Array Value} {ds gs : List (DataW H)} {before : List MemPlace} {tb : TypeId}
    (hl : laidOutB P = true) (hr : (f.params.toList.all fun t => P.readableRec t && decide (t < P.types.size)) = true) (hv : s.vars = []) (hrt : f.resultTypes = #[tb]) (hu : P.underlying tb = some .bool)
    (hW : DataW.Whole enc P f.params.toList s.vars false W args.toList ds gs before)
    (hfn : s.fn H (ds ++ gs) = { results := [.lit (.bool true)], args := ds }) (bel : Below W.heap.size W W') :
    s.post enc P f false fresh hands false W args (.bool true) W' := by
  have hW' := hW
  obtain ⟨p, q, hA, hV, rfl, hfz, hnd⟩ := hW
  refine ⟨ds, gs, _, [], p, [], hW', ?_, ?_, ?_, bel.frame _, fun h => by cases h⟩
  · rw [hfn, hrt]
    exact trodAll_mk1 (shut_bool hu true)
  · rw [hfn]
    exact trodAll_below hl bel hr hA
  · rw [hfn, hv]
    rfl

theorem ret_int {k : IntKind} {a b : Int} (h : a = b) : Ending.returned (.int k a) = .returned (.int k b) := by rw [h]
theorem ret_bool {a b : Bool} (h : a = b) : Ending.returned (.bool a) = .returned (.bool b) := by rw [h]
theorem ret2 {a b c d : Value} (h1 : a = b) (h2 : c = d) : Ending.returned (.tuple #[a, c]) = .returned (.tuple #[b, d]) := by rw [h1, h2]
theorem val_int {k : IntKind} {a b : Int} (h : a = b) : Value.int k a = .int k b := by rw [h]
theorem val_str {a b : ByteArray} (h : a = b) : Value.string a = .string b := by rw [h]

/-- 'grownBy': what holds besides the kit's own -/
theorem below_drewN {B : Nat} {a w : World} (h : Below B a w) (n : Nat) : Below B a (w.drewN n) := ⟨h.os, h.tape, h.output, h.size, h.block⟩
theorem grown_refl (w : World) (row : Option Nat) : w.grownBy w row := ⟨rfl, rfl, rfl, Nat.le_refl _, fun _ _ _ => rfl⟩
theorem grown_trans {a b c : World} {row : Option Nat} (h : a.grownBy b row) (k : b.grownBy c row) : a.grownBy c row :=
  ⟨k.os.trans h.os, k.tape.trans h.tape, k.output.trans h.output, Nat.le_trans h.size k.size, fun i hi hne => (k.block i (Nat.lt_of_lt_of_le hi h.size) hne).trans (h.block i hi hne)⟩
theorem grown_below {a b c : World} {row : Option Nat} (h : a.grownBy b row) (k : Below b.heap.size b c) : a.grownBy c row :=
  ⟨k.os.trans h.os, k.tape.trans h.tape, k.output.trans h.output, Nat.le_trans h.size k.size, fun i hi hne => (k.block i (Nat.lt_of_lt_of_le hi h.size)).trans (h.block i hi hne)⟩
theorem grown_setCell (w : World) (p : Addr) (u : Value) : w.grownBy (w.setCell p u) (some p.block) :=
  ⟨rfl, rfl, rfl, by simp [World.setCell], fun i hi hne => Below.heap_setCell w _ _ i (fun e => hne (by rw [e]))⟩
theorem grown_of_below {a b : World} (k : Below a.heap.size a b) (row : Option Nat) : a.grownBy b row :=
  ⟨k.os, k.tape, k.output, k.size, fun i hi _ => k.block i hi⟩
end Go.Proofs.YtkcojblflebomaaGreat
set_option linter.unusedVariables false
set_option linter.unusedSimpArgs false
namespace Go.Proofs.YtkcojblflebomaaGreat
open Go.RowKit Go.MapKept
open Go.Maps (Keyed)
open Go.ChangeMaps (setBlock heap_setBlock_same heap_setBlock_other)

/-- older blocks stand as they did, but for those of X -/
structure GrownX (X : Nat → Prop) (w w' : World) : Prop where
  os : w'.os = w.os
  tape : w'.tape = w.tape
  output : w'.output = w.output
  size : w.heap.size ≤ w'.heap.size
  block : ∀ i, i < w.heap.size → ¬ X i → w'.heap[i]? = w.heap[i]?
section
variable {X Y : Nat → Prop} {a b c w w' : World} {B : Nat}
theorem GrownX.refl (X : Nat → Prop) (w : World) : GrownX X w w := ⟨rfl, rfl, rfl, Nat.le_refl _, fun _ _ _ => rfl⟩
theorem GrownX.trans (h : GrownX X a b) (k : GrownX X b c) : GrownX X a c :=
  ⟨k.os.trans h.os, k.tape.trans h.tape, k.output.trans h.output, Nat.le_trans h.size k.size, fun i hi hx => (k.block i (Nat.lt_of_lt_of_le hi h.size) hx).trans (h.block i hi hx)⟩
theorem GrownX.of_below (k : Below a.heap.size a b) : GrownX X a b := ⟨k.os, k.tape, k.output, k.size, fun i hi _ => k.block i hi⟩
theorem GrownX.of_row {m : Nat} (k : a.grownBy b (some m)) (hm : X m) : GrownX X a b :=
  ⟨k.os, k.tape, k.output, k.size, fun i hi hx => k.block i hi (fun e => hx (by injection e with e; rw [e]; exact hm))⟩
theorem GrownX.mono (h : GrownX X a b) (hx : ∀ i, X i → Y i) : GrownX Y a b := ⟨h.os, h.tape, h.output, h.size, fun i hi hy => h.block i hi (fun k => hy (hx i k))⟩
theorem GrownX.below (h : GrownX X b c) (k : Below B a b) (hx : ∀ i, X i → B ≤ i) (hB : B ≤ b.heap.size) : Below B a c :=
  ⟨h.os.trans k.os, h.tape.trans k.tape, h.output.trans k.output, Nat.le_trans k.size h.size, fun i hi => (h.block i (Nat.lt_of_lt_of_le hi hB) (fun hxi => absurd (hx i hxi) (by omega))).trans (k.block i hi)⟩
theorem GrownX.drew (h : GrownX X a b) (n : Nat) : GrownX X a (b.drewN n) := ⟨h.os, h.tape, h.output, h.size, h.block⟩
theorem GrownX.cell (h : GrownX X a b) {p : Addr} (hp : p.block < a.heap.size) (hx : ¬ X p.block) : b.cell? p = a.cell? p := by
  simp only [World.cell?, h.block p.block hp hx]
theorem GrownX.at_ (h : GrownX X a b) {i : Nat} {o : Obj} (hi : a.heap[i]? = some o) (hx : ¬ X i) : b.heap[i]? = some o :=
  (h.block i (Array.getElem?_eq_some_iff.1 hi).1 hx).trans hi
end

/-- a map's entries -/
def pairs (es : Array MapEntry) : List (Value × Value) := es.toList.map fun x => (x.key, x.val)
/-- block b is a map that holds these pairs, put in this order -/
def MapAt (P : Program) (K : TypeId) (w : World) (b : Nat) (L : List (Value × Value)) : Prop :=
  ∃ es clock, w.heap[b]? = some (.map es clock) ∧ Stamped es clock ∧ (∀ x ∈ es.toList, ∃ l, keyOf P K x.key = some l) ∧ pairs es = L

section
variable {P : Program} {K t e : TypeId} {w w' : World} {b : Nat} {L : List (Value × Value)} {key z : Value} {kl : Lit}
theorem MapAt.lt (h : MapAt P K w b L) : b < w.heap.size := by
  obtain ⟨es, clock, hb, _⟩ := h
  exact (Array.getElem?_eq_some_iff.1 hb).1
theorem MapAt.new (w : World) : MapAt P K (w.alloc (.map #[] 0)) w.heap.size [] :=
  ⟨#[], 0, (MapKept.heap_alloc w _).1, stamped_empty 0, by simp, rfl⟩
theorem MapAt.keep (h : MapAt P K w b L) (hk : w'.heap[b]? = w.heap[b]?) : MapAt P K w' b L := by
  obtain ⟨es, clock, hb, r⟩ := h
  exact ⟨es, clock, hk.trans hb, r⟩
theorem MapAt.below {B : Nat} (h : MapAt P K w b L) (hb : Below B w w') (hlt : b < B) : MapAt P K w' b L := h.keep (hb.block b hlt)
theorem MapAt.alloc (h : MapAt P K w b L) (o : Obj) : MapAt P K (w.alloc o) b L := h.keep (Below.heap_alloc w o b h.lt)
theorem MapAt.drew (h : MapAt P K w b L) (n : Nat) : MapAt P K (w.drewN n) b L := h
theorem MapAt.grownX {X : Nat → Prop} (h : MapAt P K w b L) (hg : GrownX X w w') (hx : ¬ X b) : MapAt P K w' b L := h.keep (hg.block b h.lt hx)
theorem MapAt.grownBy {row : Option Nat} (h : MapAt P K w b L) (hg : w.grownBy w' row) (hx : some b ≠ row) : MapAt P K w' b L := h.keep (hg.block b h.lt hx)
theorem MapAt.apart (h : MapAt P K w b L) : L.Pairwise (fun p q => p.1 ≠ q.1) := by
  obtain ⟨es, clock, _, hs, _, rfl⟩ := h
  have := ((stamped_iff es clock).1 hs).2.2
  simpa [pairs, List.pairwise_map] using this

end
end Go.Proofs.YtkcojblflebomaaGreat
set_option linter.unusedVariables false
set_option linter.unusedSimpArgs false
namespace Go.Proofs.YtkcojblflebomaaGreat
open Go.RowKit Go.MapKept
open Go.Maps (Keyed)
open Go.ChangeMaps (setBlock filter_eq_eraseIdx)

/-- what is still to come -/
def leftP (es : Array MapEntry) (seen : Array Nat) : List (Value × Value) := (es.toList.filter fun x => !seen.contains x.born).map fun x => (x.key, x.val)
/-- block r goes over the map b, which holds L; what is left is still to come -/
def RangeAt (P : Program) (K : TypeId) (w : World) (b r : Nat) (L left : List (Value × Value)) : Prop :=
  ∃ es clock since seen c0, w.heap[b]? = some (.map es clock) ∧ Stamped es clock ∧ (∀ x ∈ es.toList, ∃ l, keyOf P K x.key = some l) ∧ pairs es = L ∧
    w.heap[r]? = some (.mapIter (some b) since seen c0) ∧ (∀ x ∈ es.toList, x.born < since) ∧ since ≤ c0 ∧ since ≤ clock ∧ left = leftP es seen

section
variable {P : Program} {K t e : TypeId} {w w' : World} {b r : Nat} {L left : List (Value × Value)}
theorem RangeAt.lt (h : RangeAt P K w b r L left) : b < w.heap.size ∧ r < w.heap.size := by
  obtain ⟨es, clock, since, seen, c0, hb, _, _, _, hr, _⟩ := h
  exact ⟨(Array.getElem?_eq_some_iff.1 hb).1, (Array.getElem?_eq_some_iff.1 hr).1⟩
theorem RangeAt.keep (h : RangeAt P K w b r L left) (h1 : w'.heap[b]? = w.heap[b]?) (h2 : w'.heap[r]? = w.heap[r]?) : RangeAt P K w' b r L left := by
  obtain ⟨es, clock, since, seen, c0, hb, hs, hk, hp, hr, rest⟩ := h
  exact ⟨es, clock, since, seen, c0, h1.trans hb, hs, hk, hp, h2.trans hr, rest⟩
theorem RangeAt.grownX {X : Nat → Prop} (h : RangeAt P K w b r L left) (hg : GrownX X w w') (hb : ¬ X b) (hr : ¬ X r) : RangeAt P K w' b r L left :=
  h.keep (hg.block b h.lt.1 hb) (hg.block r h.lt.2 hr)
theorem RangeAt.map (h : RangeAt P K w b r L left) : MapAt P K w b L := by
  obtain ⟨es, clock, since, seen, c0, hb, hs, hk, hp, _⟩ := h
  exact ⟨es, clock, hb, hs, hk, hp⟩
theorem RangeAt.sub (h : RangeAt P K w b r L left) : left.Sublist L := by
  obtain ⟨es, clock, since, seen, c0, hb, hs, hk, rfl, hr, h1, h2, h3, rfl⟩ := h
  exact (List.filter_sublist).map _

/-- 'range m' -/
theorem MapAt.range (h : MapAt P K w b L) (ht : P.underlying t = some (.map K e)) :
    ∃ w', (Instr.range t (.map (some b))).run P w = .ok (.pointer (some ⟨w.heap.size, 0, none⟩)) w' ∧ RangeAt P K w' b w.heap.size L L ∧ Below w.heap.size w w' ∧ w'.heap.size = w.heap.size + 1 := by
  have hlt := h.lt
  obtain ⟨es, clock, hb, hs, hk, rfl⟩ := h
  refine ⟨_, run_range_map w t K e b es clock ht hb, ⟨es, clock, clock, #[], clock, ((MapKept.heap_alloc w _).2 b hlt).trans hb, hs, hk, rfl, (MapKept.heap_alloc w _).1, ((stamped_iff es clock).1 hs).1, Nat.le_refl _, Nat.le_refl _, ?_⟩,
    (Below.refl _ _).alloc (Nat.le_refl _) _, by simp⟩
  have : (es.toList.filter fun x => !(#[] : Array Nat).contains x.born) = es.toList := List.filter_eq_self.2 (fun _ _ => by simp)
  unfold leftP pairs
  rw [this]

/-- the step -/
theorem RangeAt.next (h : RangeAt P K w b r L left) (hne : r ≠ b) (ty : TypeId) :
    (left = [] ∧ (Instr.next (.pointer (some ⟨r, 0, none⟩)) false ty).run P w = .ok (.tuple #[.bool false]) w) ∨
    ∃ i key v w', left[i]? = some (key, v) ∧ (Instr.next (.pointer (some ⟨r, 0, none⟩)) false ty).run P w = .ok (.tuple #[.bool true, key, v]) w' ∧ RangeAt P K w' b r L (left.eraseIdx i) ∧ w.grownBy w' (some r) ∧
      w'.heap.size = w.heap.size ∧ (Instr.entry (.pointer (some ⟨r, 0, none⟩))).run P w' = .ok (.tuple #[key, v]) w' := by
  obtain ⟨es, clock, since, seen, c0, hb, hs, hk, rfl, hr, hold, hsc, hsk, rfl⟩ := h
  rcases run_next_at (P := P) w ty r b since c0 seen es clock hr hb hold hsc with ⟨h0, hrun⟩ | ⟨e, he, w1, hal, hrun⟩
  · refine Or.inl ⟨?_, hrun⟩
    unfold leftP
    rw [List.map_eq_nil_iff]
    have h1 : (leftOf es seen).toList = [] := List.eq_nil_of_length_eq_zero (by simpa using h0)
    unfold leftOf at h1
    rw [Array.toList_filter] at h1
    exact h1
  · obtain ⟨hem, hes⟩ := mem_left he
    have hst := ((stamped_iff es clock).1 hs).2.1
    have hr1 : w1.heap[r]? = some (.mapIter (some b) since seen c0) := by rcases hal with rfl | rfl <;> exact hr
    have hb1 : w1.heap[b]? = some (.map es clock) := by rcases hal with rfl | rfl <;> exact hb
    have hset := heap_set (o' := .mapIter (some b) since (seen.push e.born) clock) hr1
    have hb' : (setBlock w1 r (.mapIter (some b) since (seen.push e.born) clock)).heap[b]? = some (.map es clock) := (hset.2 b (fun e1 => hne e1.symm)).trans hb1
    have hef : e ∈ es.toList.filter fun x => !seen.contains x.born := List.mem_filter.2 ⟨hem, by rw [hes]; rfl⟩
    obtain ⟨i, hi⟩ := List.getElem?_of_mem hef
    have herase : leftP es (seen.push e.born) = (leftP es seen).eraseIdx i := by
      unfold leftP
      rw [← Go.ChangeMaps.map_eraseIdx]
      congr 1
      have h2 := filter_eq_eraseIdx (fun x : MapEntry => x.born == e.born) (es.toList.filter fun x => !seen.contains x.born) i e hi (by simp) (by
        have hn : (es.toList.filter fun x => !seen.contains x.born).Pairwise (fun x y => x.born ≠ y.born) := by
          have := List.pairwise_map.1 hst
          exact this.filter _
        exact hn.imp (fun hxy ⟨h3, h4⟩ => hxy (by rw [beq_iff_eq] at h3 h4; rw [h3, h4])))
      rw [← h2, List.filter_filter]
      refine List.filter_congr fun x _ => ?_
      rw [contains_push]
      cases seen.contains x.born <;> cases (x.born == e.born) <;> rfl
    refine Or.inr ⟨i, e.key, e.val, _, ?_, hrun, ⟨es, clock, since, seen.push e.born, clock, hb', hs, hk, rfl, hset.1, hold, hsk, hsk, herase.symm⟩, ?_, ?_, run_entry_at _ r b since seen es clock e hset.1 hb' hem hst⟩
    · unfold leftP
      rw [List.getElem?_map, hi]
      rfl
    · rcases hal with rfl | rfl <;> exact ⟨rfl, rfl, rfl, by simp [setBlock], fun j _ hj => hset.2 j (fun e1 => hj (by rw [e1]))⟩
    · rcases hal with rfl | rfl <;> simp [setBlock]
end
end Go.Proofs.YtkcojblflebomaaGreat
set_option linter.unusedVariables false
set_option linter.unusedSimpArgs false
namespace Go.Proofs.YtkcojblflebomaaGreat
open Go.ChangeShapes Go.WideShapes Go.ChangeAt Go.RowKit Go.Deep

section
variable {H : Type} {enc : TypeId × Value → H} {P : Program} {w : World} {base : Nat} {spare : Nat → Bool} {held : Bool}
/-- a slice that came in: nil, or n elements of so many cells from an address on, each cell with what it reads as -/
def InRow (w : World) (A : Option Addr) (len cap size : Nat) (Q : Nat → Value → Prop) : Prop :=
  len ≤ cap ∧ cap ≤ maxLen ∧ (A = none → cap = 0) ∧ (0 < len → ∃ b off, A = some ⟨b, off, none⟩ ∧ b < w.heap.size ∧ ∀ i j, i < len → j < size → ∃ v, w.cell? ⟨b, off + i * size + j, none⟩ = some v ∧ Q j v)

theorem InRow.below {w w' : World} {A : Option Addr} {len cap size : Nat} {Q : Nat → Value → Prop} {B : Nat} (h : InRow w A len cap size Q) (hb : Below B w w') (hB : w.heap.size ≤ B) : InRow w' A len cap size Q := by
  refine ⟨h.1, h.2.1, h.2.2.1, fun hl => ?_⟩
  obtain ⟨b, off, rfl, hlt, hc⟩ := h.2.2.2 hl
  exact ⟨b, off, rfl, Nat.lt_of_lt_of_le hlt hb.size, fun i j hi hj => by
    obtain ⟨v, h1, h2⟩ := hc i j hi hj
    exact ⟨v, (hb.cell (p := ⟨b, _, none⟩) (Nat.lt_of_lt_of_le hlt hB)).trans h1, h2⟩⟩

theorem InRow.mono {w : World} {A : Option Addr} {len cap size : Nat} {Q Q' : Nat → Value → Prop} (h : InRow w A len cap size Q) (hq : ∀ j v, j < size → Q j v → Q' j v) : InRow w A len cap size Q' := by
  refine ⟨h.1, h.2.1, h.2.2.1, fun hl => ?_⟩
  obtain ⟨b, off, rfl, hlt, hc⟩ := h.2.2.2 hl
  exact ⟨b, off, rfl, hlt, fun i j hi hj => by
    obtain ⟨v, h1, h2⟩ := hc i j hi hj
    exact ⟨v, h1, hq j v hj h2⟩⟩
theorem InRow.at_ {w : World} {A : Option Addr} {len cap size : Nat} {Q : Nat → Value → Prop} (h : InRow w A len cap size Q) {i : Nat} (hi : i < len) :
    ∃ b off, A = some ⟨b, off, none⟩ ∧ b < w.heap.size ∧ ∀ j, j < size → ∃ v, w.cell? ⟨b, off + i * size + j, none⟩ = some v ∧ Q j v := by
  obtain ⟨b, off, rfl, hlt, hc⟩ := h.2.2.2 (by omega)
  exact ⟨b, off, rfl, hlt, fun j hj => hc i j hi hj⟩
def IsU8 (v : Value) : Prop := ∃ n : Int, v = .int .u8 n ∧ 0 ≤ n ∧ n < 256
section
variable {H : Type} {enc : TypeId × Value → H} {P : Program} {w : World} {base fuel : Nat} {spare : Nat → Bool} {held : Bool} {t : TypeId} {v : Value} {x : DataW H × List MemPlace}
theorem isU8 (ht : P.underlying t = some (.int .u8)) (h : DataW.trod enc P w base spare held fuel t [v] = some x) : IsU8 v := by
  obtain ⟨n, hc, _, hw⟩ := DataW.trod_int ht h
  simp only [List.cons.injEq, and_true] at hc
  have hw : 0 ≤ n ∧ n ≤ 255 := by simpa [Lit.wf, IntKind.min, IntKind.max, IntKind.signed, IntKind.bits] using hw
  exact ⟨n, hc, hw.1, by omega⟩
end

end
end Go.Proofs.YtkcojblflebomaaGreat
