/-
  What nlri.Decode stands on while it reads: laws of its steps. Conditions: sizes.
-/
import Derived.Test.YtocbacpbckejdaaNlG
import Derived.Test.YtocbacpbckejdaaNlH
import Derived.Laws.CopyOwn
import Derived.Laws.MakeOwn
import Derived.Laws.OwnMore
set_option linter.unusedVariables false
set_option linter.unusedSimpArgs false
namespace Go.Proofs.Ytocbacpbckejdaa
open Go.RowKit

/-- a number at the head, 0 if there are too few bytes; the rest; is something wrong? -/
def tN (t : ByteArray) (k : Nat) : Nat := if k ≤ t.size then beVal (t.data.toList.take k) else 0
def tR (t : ByteArray) (k : Nat) : ByteArray := if k ≤ t.size then t.extract k t.size else t
def tW (t : ByteArray) (k : Nat) (bad : Bool) : Bool := bad || decide (t.size < k)
theorem tN_lt (t : ByteArray) (k : Nat) : tN t k < 256 ^ k := by
  unfold tN
  split
  · rename_i h
    have hl : t.data.toList.length = t.size := by rw [Array.length_toList]; rfl
    exact beVal_lt _ _ (by rw [List.length_take]; omega)
  · exact Nat.pow_pos (by decide)
theorem tR_size (t : ByteArray) (k : Nat) : (tR t k).size ≤ t.size := by
  unfold tR
  split
  · rw [ByteArray.size_extract]; omega
  · exact Nat.le_refl _
theorem tR_size_lt {t : ByteArray} {k : Nat} (h : k ≤ t.size) : (tR t k).size = t.size - k := by
  unfold tR
  rw [if_pos h, ByteArray.size_extract]
  omega
theorem ntake_any (c9 r c10 : Nat) (s : ByteArray) (size : Nat) (bad : Bool) (w : World) (h : DecAt w c9 r c10 s bad) (s0 : 1 ≤ size) (s1 : size ≤ 8) (hm : (s.size : Int) ≤ 9223372036854775807) {z : Int} (hz : (size : Int) = z) :
    Calls Try.prog 53 #[.int .i64 z, .pointer (some ⟨c9, 0, none⟩), .pointer (some ⟨c10, 0, none⟩)] w (NTake w c9 r c10 (tN s size : Nat) (tR s size) (tW s size bad)) := by
  by_cases hs : size ≤ s.size
  · have h1 : tN s size = beVal (s.data.toList.take size) := if_pos hs
    have h2 : tR s size = s.extract size s.size := if_pos hs
    have h3 : tW s size bad = bad := by unfold tW; rw [decide_eq_false (by omega), Bool.or_false]
    rw [h1, h2, h3]
    exact ntake_ok c9 r c10 s size bad w h s0 s1 hs hm hz
  · have h1 : tN s size = 0 := if_neg hs
    have h2 : tR s size = s := if_neg hs
    have h3 : tW s size bad = true := by unfold tW; rw [decide_eq_true (by omega), Bool.or_true]
    rw [h1, h2, h3]
    exact ntake_no c9 r c10 s size bad w h s0 s1 (by omega) hm hz

theorem CellsAt.setc {w : World} {b : Nat} {cs : Array Value} {T : TypeId} (h : CellsAt w b cs T) (i : Nat) (u : Value) : CellsAt (w.setCell ⟨b, i, none⟩ u) b (cs.setIfInBounds i u) T := by
  have h2 : w.heap[b]? = some (.cells cs T (0, 0)) := h
  rw [setCell_eq_setRow w b i _ _ _ _ h2]
  exact setRow_heap w b _ _ _ _ h2
theorem CellsAt.frozen {w : World} {b : Nat} {cs : Array Value} {T : TypeId} (h : CellsAt w b cs T) (i : Nat) : w.frozen? ⟨b, i, none⟩ = false := by
  have h2 : w.heap[b]? = some (.cells cs T (0, 0)) := h
  simp only [World.frozen?, h2]
  exact Bool.and_eq_false_iff.2 (.inr (by simp))
theorem CellsAt.cast {w : World} {b : Nat} {cs ds : Array Value} {T : TypeId} (h : CellsAt w b cs T) (e : cs = ds) : CellsAt w b ds T := e ▸ h
theorem run_storeAt_one {P : Program} (w : World) (b o : Nat) (ty : TypeId) (v : Value) (ht : (w.cell? ⟨b, o, none⟩).isSome = true) (hf : w.frozen? ⟨b, o, none⟩ = false) (hi : (P.info? ty).map (·.size) = some 1) (h1 : v.oneCell' = true) :
    (Instr.storeAt ty (.pointer (some ⟨b, o, none⟩)) v).run P w = .ok () (w.setCell ⟨b, o, none⟩ v) := by
  have := run_storeCells_cells (P := P) b o [v] 0 w (fun j hj => by
    obtain rfl : j = 0 := by simpa using hj
    simpa using ht) (fun j hj => by
    obtain rfl : j = 0 := by simpa using hj
    simpa using hf) (fun u hu => by simp at hu; subst hu; exact h1)
  have hc : v.cells = #[v] := by cases v <;> first | rfl | cases h1
  cases hq : P.info? ty with
  | none => simp [hq] at hi
  | some i =>
    have hs : i.size = 1 := by simpa [hq] using hi
    simp only [Nat.add_zero] at this
    simp [Instr.storeAt, Instr.sureAddr, storeVar, sizeOf, typeInfo, hq, hc, hs, this, World.setCells]

/-- told prefixes that the call owns -/
def nlV (L : List Nl) : List Value := L.flatMap Nl.cs
theorem nlV_append (x y : List Nl) : nlV (x ++ y) = nlV x ++ nlV y := List.flatMap_append
theorem nlV_one (x : Nl) : nlV [x] = x.cs := by unfold nlV; rw [List.flatMap_cons, List.flatMap_nil, List.append_nil]
theorem nlV_at : ∀ (xs : List Nl) (i : Nat) (x : Nl), xs[i]? = some x → ∀ (j : Nat) u, x.cs[j]? = some u → (nlV xs)[i * 6 + j]? = some u
  | [], i, x, h, j, u, hu => by cases h
  | q :: r, i, x, h, j, u, hu => by
    have e : q.cs.length = 6 := rfl
    unfold nlV
    cases i with
    | zero =>
      obtain rfl : q = x := Option.some.inj h
      rw [List.flatMap_cons, Nat.zero_mul, Nat.zero_add, List.getElem?_append_left (List.getElem?_eq_some_iff.1 hu).1]
      exact hu
    | succ i =>
      rw [List.flatMap_cons, List.getElem?_append_right (by rw [e]; omega), e, show (i + 1) * 6 + j - 6 = i * 6 + j by omega]
      exact nlV_at r i x h j u hu
def NlOwn (w : World) (base : Nat) (v : Value) (L : List Nl) : Prop := OwnM w base 47 6 v L.length (nlV L)
theorem NlOwn.row {w : World} {base : Nat} {v : Value} {L : List Nl} (h : NlOwn w base v L) (hok : ∀ n ∈ L, n.Ok) : ∃ A c, v = .slice A L.length c ∧ NlRow w A L.length c L := by
  rcases Nat.eq_zero_or_pos L.length with h0 | h0
  · obtain rfl : L = [] := List.eq_nil_of_length_eq_zero h0
    rcases h.2 with ⟨h2, _⟩ | ⟨g, cap, cur, fr, h2, _, _, _, h4, h5, _⟩
    · exact ⟨none, 0, h2, rfl, Nat.le_refl _, Nat.zero_le _, fun _ => rfl, hok, fun hl => absurd hl (by simp)⟩
    · exact ⟨_, cap, h2, rfl, h4, h5, (fun e => by cases e), hok, fun hl => absurd hl (by simp)⟩
  · obtain ⟨g, cap, hv, hb, hg, hn, hc, hcell, _⟩ := OwnM.cells h h0
    refine ⟨_, cap, hv, rfl, hn, hc, (fun e => by cases e), hok, fun _ => ⟨g, 0, rfl, hg, fun i n hi => ?_⟩⟩
    have k := fun j u hu => hcell _ u (nlV_at L i n hi j u hu)
    refine ⟨?_, ?_, ?_, ?_, ?_, ?_⟩
    · simpa using k 0 _ rfl
    · simpa using k 1 _ rfl
    · simpa using k 2 _ rfl
    · simpa using k 3 _ rfl
    · simpa using k 4 _ rfl
    · simpa using k 5 _ rfl
theorem infoNl : (Try.prog.info? 47).map (fun i => (i.zero.map fun z => z.cells.size, i.size, decide (i.bytes ≤ 1000))) = some (some 6, 6, true) := by kernel_rfl
theorem infoNl2 : ∃ i z, Try.prog.info? 47 = some i ∧ i.zero = some z ∧ i.size = 6 ∧ z.cells.size = 6 ∧ i.bytes ≤ 1000 := by
  have h := infoNl
  cases hq : Try.prog.info? 47 with
  | none => simp [hq] at h
  | some i =>
    simp only [hq, Option.map_some, Option.some.injEq, Prod.mk.injEq, decide_eq_true_eq] at h
    obtain ⟨h1, h2, h3⟩ := h
    cases hz : i.zero with
    | none => rw [hz] at h1; cases h1
    | some z =>
      rw [hz] at h1
      exact ⟨i, z, rfl, hz, h2, by simpa using h1, h3⟩
theorem Nl.ones (n : Nl) : ∀ u ∈ n.cs, u.oneCell' = true := fun u hu => by
  unfold Nl.cs at hu
  simp only [List.mem_cons, List.not_mem_nil, or_false] at hu
  rcases hu with rfl | rfl | rfl | rfl | rfl | rfl <;> rfl

/-- what Decode stands on at the head of its loop -/
structure DecS (w0 w : World) (c9 r c10 : Nat) (t : ByteArray) (bad : Bool) (o : Value) (L : List Nl) : Prop where
  d : DecAt w c9 r c10 t bad
  own : NlOwn w w0.heap.size o L
  bl : Below w0.heap.size w0 w
  r0 : w0.heap.size ≤ r
  c0 : w0.heap.size ≤ c10
/-- .. and the box of the prefix that is being read -/
structure DecN (w0 w : World) (c9 r c10 : Nat) (t : ByteArray) (bad : Bool) (o : Value) (L : List Nl) (nb : Nat) (n : Nl) : Prop where
  s : DecS w0 w c9 r c10 t bad o L
  box : CellsAt w nb n.cs.toArray 47
  l1 : r < nb
  l2 : c9 < nb
  l3 : c10 < nb
  l4 : ∀ g, o.ownBlock = some g → g < nb
  l5 : w0.heap.size ≤ nb
section
variable {w0 w w' : World} {c9 r c10 : Nat} {t : ByteArray} {bad : Bool} {o : Value} {L : List Nl} {nb : Nat} {n : Nl}
theorem DecS.below (h : DecS w0 w c9 r c10 t bad o L) (hb : Below w.heap.size w w') : DecS w0 w' c9 r c10 t bad o L :=
  ⟨h.d.below hb (Nat.le_refl _), OwnM.below h.own hb (Nat.le_refl _), h.bl.trans (hb.mono h.bl.size), h.r0, h.c0⟩
theorem DecS.alloc (h : DecS w0 w c9 r c10 t bad o L) (ob : Obj) : DecS w0 (w.alloc ob) c9 r c10 t bad o L := h.below ((Below.refl _ _).alloc (Nat.le_refl _) _)
theorem DecAt.own_ne {v : Value} {base : Nat} {e : TypeId} {sz k : Nat} {xs : List Value} (h : DecAt w c9 r c10 t bad) (ho : OwnM w base e sz v k xs) (h1 : e ≠ 93) (h2 : e ≠ 4) (g : Nat) (hg : v.ownBlock = some g) : ¬ DecX r c10 g := fun hx => by
  rcases hx with rfl | rfl
  · exact OwnM.other ho h.rd h1 hg
  · exact OwnM.other ho h.h10 h2 hg
theorem DecS.took {z : Int} {t' : ByteArray} {b' : Bool} {e : Ending} (h : DecS w0 w c9 r c10 t bad o L) (ht : NTake w c9 r c10 z t' b' e w') : DecS w0 w' c9 r c10 t' b' o L :=
  ⟨ht.2.1, OwnM.keep h.own (fun g hg => ht.2.2.block g (OwnM.lt h.own g hg).2 (h.d.own_ne h.own (by decide) (by decide) g hg)), ht.2.2.below h.bl (fun i hi => by rcases hi with rfl | rfl; exact h.r0; exact h.c0) h.bl.size, h.r0, h.c0⟩
theorem DecN.below (h : DecN w0 w c9 r c10 t bad o L nb n) (hb : Below w.heap.size w w') : DecN w0 w' c9 r c10 t bad o L nb n := ⟨h.s.below hb, h.box.below hb h.box.lt, h.l1, h.l2, h.l3, h.l4, h.l5⟩
theorem DecN.alloc (h : DecN w0 w c9 r c10 t bad o L nb n) (ob : Obj) : DecN w0 (w.alloc ob) c9 r c10 t bad o L nb n := h.below ((Below.refl _ _).alloc (Nat.le_refl _) _)
theorem DecN.drew (h : DecN w0 w c9 r c10 t bad o L nb n) : DecN w0 w.drew c9 r c10 t bad o L nb n := h.below (below_drewN (Below.refl _ _) 1)
theorem DecN.took {z : Int} {t' : ByteArray} {b' : Bool} {e : Ending} (h : DecN w0 w c9 r c10 t bad o L nb n) (ht : NTake w c9 r c10 z t' b' e w') : DecN w0 w' c9 r c10 t' b' o L nb n :=
  ⟨h.s.took ht, h.box.grownX ht.2.2 (fun hx => by have := h.l1; have := h.l3; rcases hx with rfl | rfl <;> omega), h.l1, h.l2, h.l3, h.l4, h.l5⟩
theorem DecN.new (h : DecS w0 w c9 r c10 t bad o L) (n : Nl) : DecN w0 (w.alloc (.cells n.cs.toArray 47)) c9 r c10 t bad o L w.heap.size n :=
  ⟨h.alloc _, CellsAt.new _ _ _, h.d.rd.lt, h.d.h9.lt, h.d.h10.lt, fun g hg => (OwnM.lt h.own g hg).2, h.bl.size⟩
theorem DecN.p9 (h : DecN w0 w c9 r c10 t bad o L nb n) : w.cell? ⟨c9, 0, none⟩ = some (.pointer (some ⟨r, 0, none⟩)) := h.s.d.h9.one.1
theorem DecN.p10 (h : DecN w0 w c9 r c10 t bad o L nb n) : w.cell? ⟨c10, 0, none⟩ = some (.bool bad) := h.s.d.h10.one.1
theorem DecN.set (h : DecN w0 w c9 r c10 t bad o L nb n) (i : Nat) (v : Value) (n' : Nl) (e : n.cs.toArray.setIfInBounds i v = n'.cs.toArray) : DecN w0 (w.setCell ⟨nb, i, none⟩ v) c9 r c10 t bad o L nb n' := by
  have hk : ∀ k, k ≠ nb → (w.setCell ⟨nb, i, none⟩ v).heap[k]? = w.heap[k]? := fun k hk => Below.heap_setCell w ⟨nb, i, none⟩ v k hk
  have h1 := h.l1
  have h2 := h.l2
  have h3 := h.l3
  exact ⟨⟨⟨(hk _ (by omega)).trans h.s.d.h9, (hk _ (by omega)).trans h.s.d.rd, (hk _ (by omega)).trans h.s.d.h10, h.s.d.n1, h.s.d.n2, h.s.d.n3⟩, OwnM.keep h.s.own (fun g hg => hk g (by have := h.l4 g hg; omega)), h.s.bl.setCell (p := ⟨nb, i, none⟩) h.l5 v, h.s.r0, h.s.c0⟩,
    (h.box.setc i v).cast e, h1, h2, h3, h.l4, h.l5⟩
theorem DecN.flag (h : DecN w0 w c9 r c10 t bad o L nb n) (b : Bool) : DecN w0 (w.setCell ⟨c10, 0, none⟩ (.bool b)) c9 r c10 t b o L nb n := by
  have hk : ∀ k, k ≠ c10 → (w.setCell ⟨c10, 0, none⟩ (.bool b)).heap[k]? = w.heap[k]? := fun k hk => Below.heap_setCell w ⟨c10, 0, none⟩ _ k hk
  have h3 := h.l3
  exact ⟨⟨⟨(hk _ h.s.d.n3).trans h.s.d.h9, (hk _ h.s.d.n2).trans h.s.d.rd, h.s.d.h10.set _, h.s.d.n1, h.s.d.n2, h.s.d.n3⟩, OwnM.keep h.s.own (fun g hg => hk g (fun e => OwnM.other h.s.own h.s.d.h10 (by decide) (e ▸ hg))), h.s.bl.setCell (p := ⟨c10, 0, none⟩) h.s.c0 _, h.s.r0, h.s.c0⟩,
    (hk _ (by omega)).trans h.box, h.l1, h.l2, h.l3, h.l4, h.l5⟩
end
section
variable {ops : Array Oper} {rest : List Oper} {op : Oper} {a : Act} {Q : Exit → Act → World → Prop} {w0 V : World} {c9 r c10 : Nat} {t : ByteArray} {bad : Bool} {o : Value} {L : List Nl} {nb : Nat} {n : Nl}
/-- a cell of the prefix is laid -/
theorem wpList_nl_set (hgd : op.guard = none) (ty : TypeId) (p q : Operand) (ho : op.op = .store ty p q) (i : Nat) (hx : a.eval p = .pointer (some ⟨nb, i, none⟩)) (v : Value) (hy : a.eval q = v) (hi : (Try.prog.info? ty).map (·.size) = some 1)
    (hM : Hid (DecN w0 V c9 r c10 t bad o L nb n)) (n' : Nl) (e : Hid (n.cs.toArray.setIfInBounds i v = n'.cs.toArray)) (hi2 : i < 6) (h1 : v.oneCell' = true)
    (h : ∀ V', Hid (DecN w0 V' c9 r c10 t bad o L nb n') → wpList Try.prog ops Q rest (a.put op.dst undef) V') : wpList Try.prog ops Q (op :: rest) a V :=
  wpList_plain hgd fun _ hK => by
    have hs : n.cs.toArray.size = 6 := rfl
    have ht : (V.cell? ⟨nb, i, none⟩).isSome = true := by rw [hM.out.box.c i, Array.getElem?_eq_getElem (by rw [hs]; exact hi2)]; rfl
    unfold Oper.wp execOp
    simp only [ho, hx, hy, run_storeAt_one (P := Try.prog) V nb i ty v ht (hM.out.box.frozen i) hi h1, Sem.run_bind, Sem.run_pure, Result.andThen_ok]
    exact hK _ _ (h _ (hM.out.set i v n' e.out))
/-- the flag is laid -/
theorem wpList_nl_flag (hgd : op.guard = none) (p q : Operand) (ho : op.op = .store 4 p q) (hx : a.eval p = .pointer (some ⟨c10, 0, none⟩)) (b : Bool) (hy : a.eval q = .bool b)
    (hM : Hid (DecN w0 V c9 r c10 t bad o L nb n))
    (h : ∀ V', Hid (DecN w0 V' c9 r c10 t b o L nb n) → wpList Try.prog ops Q rest (a.put op.dst undef) V') : wpList Try.prog ops Q (op :: rest) a V :=
  wpList_plain hgd fun _ hK => by
    have ht : (V.cell? ⟨c10, 0, none⟩).isSome = true := by rw [hM.out.p10]; rfl
    unfold Oper.wp execOp
    simp only [ho, hx, hy, run_storeAt_one (P := Try.prog) V c10 0 4 (.bool b) ht (hM.out.s.d.h10.frozen 0) (by kernel_rfl) rfl, Sem.run_bind, Sem.run_pure, Result.andThen_ok]
    exact hK _ _ (h _ (hM.out.flag b))
/-- bytes 0 are made -/
theorem wpList_make_bytes {W : World} (hgd : op.guard = none) (p q : Operand) (ho : op.op = .makeSlice 52 p q) (k : Nat) (hx : a.eval p = .int .i64 k) (hy : a.eval q = .int .i64 k) (hk : k ≤ 1000000)
    (h : ∀ W', Hid (OwnM W' W.heap.size 5 1 (.slice (some ⟨W.heap.size, 0, none⟩) k k) k (byteVals (List.replicate k 0))) → Hid (Below W.heap.size W W') → wpList Try.prog ops Q rest (a.put op.dst (.slice (some ⟨W.heap.size, 0, none⟩) k k)) W') : wpList Try.prog ops Q (op :: rest) a W := by
  obtain ⟨i0, hi, hz0, hz1, hz2⟩ := info_parts infoU8
  obtain ⟨W', hrun, hown, hg⟩ := run_makeSlice_full (P := Try.prog) (w := W) W.heap.size 52 5 i0 _ 1 Try.underlying52 hi hz0 hz1 .i64 .i64 k (by omega) (by rw [hz2]; omega) (by unfold maxLen; omega) (Nat.le_refl _)
  refine wpList_plain hgd fun K hK => ?_
  unfold Oper.wp execOp
  simp only [ho, hx, hy, hrun, Sem.run_bind, Sem.run_pure, Result.andThen_ok]
  refine hK _ _ (h W' ?_ ⟨hg.os, hg.tape, hg.output, hg.size, fun i hi => hg.block i hi (by simp)⟩)
  have h2 := OwnM.of_own hown
  have e : (madeCells (Value.int IntKind.u8 0).cells (k * 1)).toList = byteVals (List.replicate k 0) := by
    show (madeCells #[Value.int IntKind.u8 0] (k * 1)).toList = _
    unfold madeCells byteVals
    apply List.ext_getElem?
    intro i
    by_cases hi : i < k
    · simp [hi, Nat.mod_one]
    · simp [hi]
  show OwnM _ _ _ _ _ _ _
  rw [← e]
  exact h2
/-- .. so they stand then -/
def overL (l : List UInt8) (str : ByteArray) : List UInt8 := str.data.toList ++ l.drop str.size
/-- bytes of a string are laid over the head of bytes -/
theorem wpList_copy_str {W : World} (hgd : op.guard = none) (d s : Operand) (ho : op.op = .call { callee := .builtin .copy, args := #[d, s], argTypes := #[52, 9] }) (g k base : Nat) (str : ByteArray) (l : List UInt8)
    (hd : a.eval d = .slice (some ⟨g, 0, none⟩) k k) (hs : a.eval s = .string str) (hle : Hid (str.size ≤ k)) (hown : Hid (OwnM W base 5 1 (.slice (some ⟨g, 0, none⟩) k k) k (byteVals l)))
    (h : ∀ W', Hid (OwnM W' base 5 1 (.slice (some ⟨g, 0, none⟩) k k) k (byteVals (overL l str))) → Hid (Below g W W') → wpList Try.prog ops Q rest (a.put op.dst (.int .i64 str.size)) W') : wpList Try.prog ops Q (op :: rest) a W := by
  obtain ⟨i0, hi, hz0, hz1, hz2⟩ := info_parts infoU8
  have hlk : (byteVals l).length = k := by have := hown.out.1; omega
  rcases hown.out.2 with ⟨hv, _⟩ | ⟨g', cap, cur, fr, hv, hb, hg, hfr, hn, hm, hcs, htake⟩
  · cases hv
  simp only [Value.slice.injEq, Option.some.injEq, Addr.mk.injEq, true_and, and_true] at hv
  obtain ⟨rfl, rfl⟩ := hv
  have hle := hle.out
  have hsl : str.data.toList.length = str.size := by rw [Array.length_toList]; rfl
  have hst := run_storeCells_m (P := Try.prog) g 0 5 fr (byteVals str.data.toList) 0 cur W hg (by rw [byteVals, List.length_map, hsl, hcs]; omega) hfr (fun v hv => by
    obtain ⟨b, _, rfl⟩ := List.mem_map.1 hv
    rfl)
  have hrun : (Builtin.copy_ #[52, 9] op.type #[.slice (some ⟨g, 0, none⟩) k k, .string str]).run Try.prog W = .ok (goInt str.size) (W.setRow g (byteVals str.data.toList ++ (byteVals l).drop str.size).toArray) := by
    have e1 : Nat.min str.size k = str.size := Nat.min_eq_left hle
    have e2 : (Builtin.firstCells 1 str.size (.string str)).run Try.prog W = .ok (byteVals str.data.toList).toArray W := (Src.string (P := Try.prog) (w := W) (s := str) Try.underlying9).first W (fun _ => rfl)
    have e3 : cur.toList.take 0 ++ byteVals str.data.toList ++ cur.toList.drop (0 + (byteVals str.data.toList).length) = byteVals str.data.toList ++ (byteVals l).drop str.size := by
      have e4 : cur.toList = byteVals l := by
        rw [← htake, List.take_of_length_le (by rw [Array.length_toList, hcs]; exact Nat.le_refl _)]
      rw [e4, List.take_zero, List.nil_append]
      unfold byteVals
      rw [List.length_map, hsl, Nat.zero_add]
    rw [Nat.add_zero] at hst
    rw [e3] at hst
    simp [Builtin.copy_, run_underlying Try.underlying52, Builtin.lenOf, sizeOf, typeInfo, hi, hz1, e1, e2, hst]
  refine wpList_plain hgd fun K hK => ?_
  unfold Oper.wp
  simp [execOp, ho, resolve, invoke, builtin, hd, hs, hrun, Result.andThen]
  have hlen : (byteVals str.data.toList ++ (byteVals l).drop str.size).length = k := by
    rw [List.length_append, List.length_drop, hlk]
    unfold byteVals
    rw [List.length_map, hsl]
    omega
  refine hK _ _ (h _ ⟨?_, .inr ⟨g, k, _, fr, rfl, hb, setRow_heap W g _ _ _ _ hg, ?_, hn, hm, ?_, ?_⟩⟩ (Go.below_setRow (Below.refl _ _) (Nat.le_refl _) _))
  · unfold byteVals overL at *
    rw [List.map_append, List.map_drop]
    omega
  · rcases hfr with h | h
    · exact .inl h
    · right
      rw [List.size_toArray, hlen]
      omega
  · rw [List.size_toArray, hlen]
    omega
  · rw [List.take_of_length_le (by rw [hlen]; omega)]
    unfold byteVals overL
    rw [List.map_append, List.map_drop]
/-- a prefix is appended -/
theorem wpList_append_nl {W : World} (hgd : op.guard = none) (s p : Operand)
    (ho : op.op = .call { callee := .builtin .append, args := #[s, p], argTypes := #[29, 29] }) (base : Nat) (v : Value) (ys : List Nl) (hs : a.eval s = v) (hown : Hid (NlOwn W base v ys))
    (x : Nl) (b : Nat) (hp : a.eval p = .slice (some ⟨b, 0, none⟩) 1 1) (hc : Hid (CellsAt W b x.cs.toArray 47)) (hl : Hid (ys.length ≤ 2000000)) (hbase : Hid (base ≤ W.heap.size))
    (h : ∀ A' c' w', Hid (NlOwn w' base (.slice A' (ys.length + 1) c') (ys ++ [x])) → Hid (W.grownBy w' v.ownBlock) → wpList Try.prog ops Q rest (a.put op.dst (.slice A' (ys.length + 1) c')) w') : wpList Try.prog ops Q (op :: rest) a W := by
  obtain ⟨i0, z0, hi, hz0, hz1, hz2, hz3⟩ := infoNl2
  have hown := hown.out
  have hl := hl.out
  refine wpList_append_m hgd s p 29 29 ho base 47 i0 z0 6 i0.bytes Try.underlying29 hi hz0 hz1 rfl hz2 (by decide) v ys.length (nlV ys) hs hown _ 1 (nlV [x]) hp ?_ ?_ ?_ hbase.out ?_
  · rw [nlV_one]
    refine Src.slice Try.underlying29 rfl (fun j u hu => ?_) x.ones
    rw [add_flat, hc.out.c j, List.getElem?_toArray]
    exact hu
  · unfold maxLen
    omega
  · have h5 : (ys.length + 1) * i0.bytes ≤ 2000001 * 1000 := Nat.mul_le_mul (by omega) hz3
    omega
  · intro v' w' hv hg hat
    obtain ⟨A', c', rfl⟩ := hv.form
    refine h A' c' w' ?_ hg
    show OwnM _ _ _ _ _ _ _
    rw [nlV_append, List.length_append]
    exact hv
end
end Go.Proofs.Ytocbacpbckejdaa
