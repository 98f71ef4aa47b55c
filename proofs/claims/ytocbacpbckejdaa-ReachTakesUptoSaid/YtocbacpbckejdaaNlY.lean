/-
  Told prefixes that are made, stored one by one; many of one kind. Conditions: sizes.
-/
import Derived.Test.YtocbacpbckejdaaNlV
import Derived.Test.YtocbacpbckejdaaNlW
import Derived.Test.YtocbacpbckejdaaNlX
set_option linter.unusedVariables false
set_option linter.unusedSimpArgs false
namespace Go.Proofs.Ytocbacpbckejdaa
open Go.RowKit

def nlZero : Nl := ⟨0, 0, ⟨#[]⟩, 0, 0, 0⟩
theorem infoNl3 : (Try.prog.info? 47).map (fun i => (i.zero.map fun z => z.cells, i.size, decide (i.bytes ≤ 1000))) = some (some #[.int .i64 0, .int .u64 0, .string ⟨#[]⟩, .int .i64 0, .int .u32 0, .int .u32 0], 6, true) := by kernel_rfl
theorem infoNl4 : ∃ i z, Try.prog.info? 47 = some i ∧ i.zero = some z ∧ i.size = 6 ∧ z.cells = nlZero.cs.toArray ∧ i.bytes ≤ 1000 := by
  have h := infoNl3
  cases hq : Try.prog.info? 47 with
  | none => simp [hq] at h
  | some i =>
    simp only [hq, Option.map_some, Option.some.injEq, Prod.mk.injEq, decide_eq_true_eq] at h
    obtain ⟨h1, h2, h3⟩ := h
    cases hz : i.zero with
    | none => rw [hz] at h1; cases h1
    | some z =>
      rw [hz] at h1
      exact ⟨i, z, rfl, hz, h2, by simpa [nlZero, Nl.cs] using h1, h3⟩
theorem Nl.cs_length (n : Nl) : n.cs.length = 6 := rfl
theorem nlV_length (L : List Nl) : (nlV L).length = L.length * 6 := by
  induction L with
  | nil => rfl
  | cons n r ih =>
    unfold nlV at *
    rw [List.flatMap_cons, List.length_append, ih, Nl.cs_length, List.length_cons]
    omega
theorem nlV_cons (n : Nl) (r : List Nl) : nlV (n :: r) = n.cs ++ nlV r := by unfold nlV; rw [List.flatMap_cons]
theorem nlV_set : ∀ (L : List Nl) (i : Nat) (n : Nl), i < L.length → nlV (L.set i n) = (nlV L).take (i * 6) ++ n.cs ++ (nlV L).drop (i * 6 + 6)
  | [], i, n, h => absurd h (by simp)
  | x :: r, 0, n, _ => by
    rw [List.set_cons_zero, nlV_cons, nlV_cons, Nat.zero_mul, List.take_zero, List.nil_append, Nat.zero_add, List.drop_append_of_le_length (by rw [Nl.cs_length]; omega), List.drop_of_length_le (by rw [Nl.cs_length]; omega), List.nil_append]
  | x :: r, i + 1, n, h => by
    have ih := nlV_set r i n (by simpa using h)
    have e1 : (i + 1) * 6 = 6 + i * 6 := by omega
    have e2 : x.cs.length = 6 := rfl
    rw [List.set_cons_succ, nlV_cons, nlV_cons, ih, e1]
    rw [show (x.cs ++ nlV r).take (6 + i * 6) = x.cs ++ (nlV r).take (i * 6) by rw [← e2, List.take_length_add_append], show (x.cs ++ nlV r).drop (6 + i * 6 + 6) = (nlV r).drop (i * 6 + 6) by rw [Nat.add_assoc, ← e2, List.drop_length_add_append]]
    simp only [List.append_assoc]
theorem nlV_made (k : Nat) : (madeCells nlZero.cs.toArray (k * 6)).toList = nlV (List.replicate k nlZero) := by
  apply List.ext_getElem?
  intro i
  by_cases hi : i < k * 6
  · have h1 : (List.replicate k nlZero)[i / 6]? = some nlZero := by rw [List.getElem?_replicate, if_pos (by omega)]
    have hlt : i % 6 < nlZero.cs.length := by rw [Nl.cs_length]; omega
    have h2 := nlV_at _ (i / 6) nlZero h1 (i % 6) nlZero.cs[i % 6] (List.getElem?_eq_getElem hlt)
    rw [show i / 6 * 6 + i % 6 = i by omega] at h2
    rw [h2]
    unfold madeCells
    have hs : nlZero.cs.toArray.size = 6 := rfl
    rw [Array.getElem?_toList, Array.getElem?_map, Array.getElem?_range, if_pos hi, Option.map_some, hs]
    congr 1
    rw [getElem!_pos nlZero.cs.toArray (i % 6) (by rw [hs]; omega)]
    rfl
  · rw [List.getElem?_eq_none (by rw [Array.length_toList, size_madeCells]; omega), List.getElem?_eq_none (by rw [nlV_length, List.length_replicate]; omega)]
theorem run_storeAt_many {P : Program} (W : World) (g o : Nat) (ty : TypeId) (vs : List Value) (W' : World) (hi : (P.info? ty).map (·.size) = some vs.length) (hst : (storeCells ⟨g, o, none⟩ vs).run P W = .ok () W') :
    (Instr.storeAt ty (.pointer (some ⟨g, o, none⟩)) (.agg vs.toArray)).run P W = .ok () W' := by
  cases hq : P.info? ty with
  | none => simp [hq] at hi
  | some i =>
    have hs : i.size = vs.length := by simpa [hq] using hi
    simp [Instr.storeAt, Instr.sureAddr, storeVar, sizeOf, typeInfo, hq, hs, Value.cells, hst]
set_option maxRecDepth 10000 in
theorem NlOwn.store {W : World} {base g cap i : Nat} {L : List Nl} (h : NlOwn W base (.slice (some ⟨g, 0, none⟩) L.length cap) L) (hi : i < L.length) (n : Nl) :
    ∃ W', (Instr.storeAt 47 (.pointer (some ⟨g, i * 6, none⟩)) n.v).run Try.prog W = .ok () W' ∧ NlOwn W' base (.slice (some ⟨g, 0, none⟩) L.length cap) (L.set i n) ∧ W.grownBy W' (some g) := by
  obtain ⟨i0, z0, hinf, _, hsz, _, _⟩ := infoNl2
  rcases h.2 with ⟨hv, _⟩ | ⟨g', cap', cur, fr, hv, hb, hg, hfr, hn, hm, hcs, htake⟩
  · cases hv
  simp only [Value.slice.injEq, Option.some.injEq, Addr.mk.injEq, true_and, and_true] at hv
  obtain ⟨rfl, rfl⟩ := hv
  have hcl : cur.toList.length = cap * 6 := by rw [Array.length_toList, hcs]
  have hle : L.length * 6 ≤ cap * 6 := Nat.mul_le_mul_right _ hn
  have hst := run_storeCells_m (P := Try.prog) g (i * 6) 47 fr n.cs 0 cur W hg (by rw [Nl.cs_length, hcs]; omega) hfr n.ones
  rw [Nat.add_zero, Nl.cs_length] at hst
  refine ⟨W.setRow g (cur.toList.take (i * 6) ++ n.cs ++ cur.toList.drop (i * 6 + 6)).toArray, ?_, ⟨?_, .inr ⟨g, cap, _, fr, ?_, hb, setRow_heap W g _ _ _ _ hg, ?_, by rw [List.length_set]; exact hn, hm, ?_, ?_⟩⟩, ?_⟩
  · exact run_storeAt_many W g (i * 6) 47 n.cs _ (by rw [hinf, Option.map_some, hsz]; rfl) hst
  · rw [nlV_length, List.length_set]
  · rw [List.length_set]
  · rcases hfr with h1 | h1
    · exact .inl h1
    · right
      simp only [List.size_toArray, List.length_append, List.length_take, List.length_drop, Nl.cs_length, hcl]
      omega
  · simp only [List.size_toArray, List.length_append, List.length_take, List.length_drop, Nl.cs_length, hcl]
    omega
  · rw [List.length_set, nlV_set L i n hi, ← htake]
    have hd : (cur.toList.take (L.length * 6)).drop (i * 6 + 6) = (cur.toList.drop (i * 6 + 6)).take (L.length * 6 - (i * 6 + 6)) := by rw [List.drop_take]
    rw [hd, List.take_take, Nat.min_eq_left (by omega), List.take_append, List.take_of_length_le (by simp only [List.length_append, List.length_take, Nl.cs_length, hcl]; omega)]
    congr 2
    simp only [List.length_append, List.length_take, Nl.cs_length, hcl]
    omega
  · exact ⟨rfl, rfl, rfl, by rw [setRow_size]; exact Nat.le_refl _, fun k hk hne => setRow_other W g k _ (fun e => hne (by rw [e]))⟩
section
variable {ops : Array Oper} {rest : List Oper} {op : Oper} {a : Act} {Q : Exit → Act → World → Prop}
/-- told prefixes are made -/
theorem wpList_make_nl {W : World} (hgd : op.guard = none) (p q : Operand) (ho : op.op = .makeSlice 29 p q) (k : Nat) (hx : a.eval p = .int .i64 k) (hy : a.eval q = .int .i64 k) (hk : k ≤ 5000)
    (h : ∀ W', Hid (NlOwn W' W.heap.size (.slice (some ⟨W.heap.size, 0, none⟩) k k) (List.replicate k nlZero)) → Hid (Below W.heap.size W W') → wpList Try.prog ops Q rest (a.put op.dst (.slice (some ⟨W.heap.size, 0, none⟩) k k)) W') : wpList Try.prog ops Q (op :: rest) a W := by
  obtain ⟨i0, z0, hi, hz0, hz1, hz2, hz3⟩ := infoNl4
  have hbk : i0.bytes * k ≤ 1000 * 5000 := Nat.mul_le_mul hz3 hk
  obtain ⟨W', hrun, hown, hg⟩ := run_makeSlice_full (P := Try.prog) (w := W) W.heap.size 29 47 i0 _ 6 Try.underlying29 hi hz0 hz1 .i64 .i64 k (by omega) (by omega) (by unfold maxLen; omega) (Nat.le_refl _)
  refine wpList_plain hgd fun K hK => ?_
  unfold Oper.wp execOp
  simp only [ho, hx, hy, hrun, Sem.run_bind, Sem.run_pure, Result.andThen_ok]
  refine hK _ _ (h W' ?_ ⟨hg.os, hg.tape, hg.output, hg.size, fun i hi => hg.block i hi (by simp)⟩)
  have h2 := OwnM.of_own hown
  rw [hz2, nlV_made] at h2
  show OwnM _ _ _ _ _ _ _
  rw [List.length_replicate]
  exact h2
/-- one of them is stored -/
theorem wpList_nl_store {W : World} (hgd : op.guard = none) (p q : Operand) (ho : op.op = .store 47 p q) (base g cap i : Nat) (L : List Nl) (n : Nl) (hx : a.eval p = .pointer (some ⟨g, i * 6, none⟩)) (hy : a.eval q = n.v)
    (hown : Hid (NlOwn W base (.slice (some ⟨g, 0, none⟩) L.length cap) L)) (hi : i < L.length)
    (h : ∀ W', Hid (NlOwn W' base (.slice (some ⟨g, 0, none⟩) L.length cap) (L.set i n)) → Hid (W.grownBy W' (some g)) → wpList Try.prog ops Q rest (a.put op.dst undef) W') : wpList Try.prog ops Q (op :: rest) a W := by
  obtain ⟨W', hrun, h2, h3⟩ := hown.out.store hi n
  refine wpList_plain hgd fun K hK => ?_
  unfold Oper.wp execOp
  simp only [ho, hx, hy, hrun, Sem.run_bind, Sem.run_pure, Result.andThen_ok]
  exact hK _ _ (h W' h2 h3)
end
theorem NlRow.take {w : World} {A : Option Addr} {len cap k : Nat} {L : List Nl} (h : NlRow w A len cap L) (hk : k ≤ len) : NlRow w A k cap (L.take k) :=
  ⟨by rw [List.length_take, h.hlen]; omega, Nat.le_trans hk h.hle, h.hcap, h.hnil, fun n hn => h.ok n (List.mem_of_mem_take hn), fun hl => by
    obtain ⟨b, off, hA, hb, hc⟩ := h.at_ (by omega)
    refine ⟨b, off, hA, hb, fun i n hi => hc i n ?_⟩
    rw [List.getElem?_take] at hi
    split at hi
    · exact hi
    · cases hi⟩
theorem enc_rep (k : Nat) : (encAll (List.replicate k (tenN 1)) false).length = 2 * k := by
  induction k with
  | zero => rfl
  | succ k ih =>
    have e : encAll (List.replicate (k + 1) (tenN 1)) false = encOne (tenN 1) false ++ encAll (List.replicate k (tenN 1)) false := by unfold encAll; rw [List.replicate_succ, List.flatMap_cons]
    have e2 : (encOne (tenN 1) false).length = 2 := by kernel_rfl
    rw [e, List.length_append, ih, e2]
    omega
theorem ten_good : nlGood 1 false (tenN 1) := by
  have h : decide (nlGood 1 false (tenN 1)) = true := by kernel_rfl
  exact of_decide_eq_true h
theorem lay_rep (a : ByteArray) (k : Nat) : layR a (List.replicate k (tenN 1)) 1 false = if 4077 < a.size + 2 * k then .tuple #[.string ⟨#[]⟩, .int .i64 3] else .tuple #[.string (a ++ bts (encAll (List.replicate k (tenN 1)) false)), .int .i64 0] := by
  unfold layR
  rw [if_neg, enc_rep]
  · rfl
  · rintro (h | h)
    · exact absurd h (by decide)
    · exact h (fun n hn => by rw [List.eq_of_mem_replicate hn]; exact ten_good)
theorem gone_rep (k : Nat) : (4077 < 3 + 2 * k → goneR 1 (List.replicate k (tenN 1)) false = .tuple #[.string ⟨#[]⟩, .int .i64 3]) ∧ (¬ 4077 < 3 + 2 * k → ∃ s, goneR 1 (List.replicate k (tenN 1)) false = .tuple #[.string s, .int .i64 0]) := by
  have e : goneR 1 (List.replicate k (tenN 1)) false = layR (headS 1) (List.replicate k (tenN 1)) 1 false := if_pos (by omega)
  rw [e, lay_rep, headS_size]
  exact ⟨fun h => if_pos h, fun h => ⟨_, if_neg h⟩⟩
theorem put_rep (k : Nat) : (4077 < 9 + 2 * k → putR 1 ⟨#[10, 0, 0, 1]⟩ (List.replicate k (tenN 1)) false = .tuple #[.string ⟨#[]⟩, .int .i64 3]) ∧ (¬ 4077 < 9 + 2 * k → ∃ s, putR 1 ⟨#[10, 0, 0, 1]⟩ (List.replicate k (tenN 1)) false = .tuple #[.string s, .int .i64 0]) := by
  have e : putR 1 ⟨#[10, 0, 0, 1]⟩ (List.replicate k (tenN 1)) false = layR (aheadS 1 ⟨#[10, 0, 0, 1]⟩) (List.replicate k (tenN 1)) 1 false := if_pos (by decide)
  have e2 : (aheadS 1 ⟨#[10, 0, 0, 1]⟩).size = 9 := by kernel_rfl
  rw [e, lay_rep, e2]
  exact ⟨fun h => if_pos h, fun h => ⟨_, if_neg h⟩⟩
end Go.Proofs.Ytocbacpbckejdaa
