/-
  Several texts in one.
-/
import Derived.Test.YtojiieghjhjoaaaGreatKN1
import Derived.Laws.IdiomStrings
import Derived.Lib.BufferRead
import Derived.OwnWalk
set_option linter.unusedVariables false
set_option linter.unusedSimpArgs false
namespace Go.Proofs.YtojiieghjhjoaaaGreat
open Go.RowKit

section
variable {P : Program}

theorem add_flat (g j : Nat) : (⟨g, 0, none⟩ : Addr).add j = ⟨g, j, none⟩ := by unfold Addr.add; split <;> simp_all
theorem add_off (g o j : Nat) : (⟨g, o, none⟩ : Addr).add j = ⟨g, o + j, none⟩ := by unfold Addr.add; split <;> simp_all

/-- storing cells, whatever the row's mark, where no cell of the row is frozen -/
theorem run_storeCells_m (g o : Nat) (t : TypeId) (fr : Nat × Nat) : ∀ (vs : List Value) (i : Nat) (cur : Array Value) (w : World), w.heap[g]? = some (.cells cur t fr) → o + i + vs.length ≤ cur.size → (fr.2 ≤ fr.1 ∨ cur.size ≤ fr.1) → (∀ v ∈ vs, v.oneCell' = true) →
    (storeCells ⟨g, o, none⟩ vs i).run P w = .ok () (w.setRow g (cur.toList.take (o + i) ++ vs ++ cur.toList.drop (o + i + vs.length)).toArray)
  | [], i, cur, w, hg, _, _, _ => by
    simp only [storeCells, List.append_nil, List.length_nil, Nat.add_zero, List.take_append_drop, Array.toArray_toList]
    rw [setRow_self w g cur t fr hg]
    rfl
  | v :: rest, i, cur, w, hg, hl, hfr, h1 => by
    have hi : o + i < cur.size := by simp at hl; omega
    have hcell : w.cell? ⟨g, o + i, none⟩ = some cur[o + i] := by simp [World.cell?, hg, hi]
    have hfro : w.frozen? ⟨g, o + i, none⟩ = false := by
      simp only [World.frozen?, hg]
      rcases hfr with h | h
      · by_cases h2 : fr.1 ≤ o + i
        · simp [show ¬ (o + i < fr.2) by omega]
        · simp [h2]
      · simp [show ¬ (fr.1 ≤ o + i) by omega]
    have hst : (store ((⟨g, o, none⟩ : Addr).add i) v).run P w = .ok () (w.setRow g (cur.setIfInBounds (o + i) v)) := by
      rw [add_off, run_store P w _ v _ (h1 v (by simp)), hcell]
      simp [hfro, setCell_eq_setRow w g (o + i) cur t fr v hg]
    have ih := run_storeCells_m g o t fr rest (i + 1) (cur.setIfInBounds (o + i) v) (w.setRow g (cur.setIfInBounds (o + i) v)) (setRow_heap w g cur _ t _ hg) (by simp at hl ⊢; omega) (by simpa using hfr) (fun x hx => h1 x (by simp [hx]))
    simp only [storeCells, Sem.run_bind, hst, Result.andThen_ok, ih, setRow_setRow]
    congr 3
    have e := list_seg_step cur.toList (o + i) v rest (by simp at hl ⊢; omega)
    simpa [Array.toList_setIfInBounds, Nat.add_assoc] using e

/-- the slice v of n elements owns the cells xs: it is nil, or the head of a row in a block from base on, no cell of which is frozen -/
def OwnM (w : World) (base : Nat) (e : TypeId) (size : Nat) (v : Value) (n : Nat) (xs : List Value) : Prop :=
  xs.length = n * size ∧
  ((v = .slice none 0 0 ∧ n = 0) ∨
   ∃ g cap cur fr, v = .slice (some ⟨g, 0, none⟩) n cap ∧ base ≤ g ∧ w.heap[g]? = some (.cells cur e fr) ∧ (fr.2 ≤ fr.1 ∨ cur.size ≤ fr.1) ∧ n ≤ cap ∧ cap ≤ maxLen ∧ cur.size = cap * size ∧ cur.toList.take (n * size) = xs)

section
variable {w w' : World} {base : Nat} {e : TypeId} {size : Nat} {v : Value} {n : Nat} {xs : List Value}
theorem OwnM.nil (w : World) (base : Nat) (e : TypeId) (size : Nat) : OwnM w base e size (.slice none 0 0) 0 [] := ⟨by simp, .inl ⟨rfl, rfl⟩⟩
theorem OwnM.lt (h : OwnM w base e size v n xs) : ∀ k, v.ownBlock = some k → base ≤ k ∧ k < w.heap.size := by
  intro k hk
  rcases h.2 with ⟨rfl, _⟩ | ⟨g, cap, cur, fr, rfl, hb, hg, _⟩
  · simp [Value.ownBlock] at hk
  · simp [Value.ownBlock] at hk
    subst hk
    exact ⟨hb, (Array.getElem?_eq_some_iff.1 hg).1⟩
/-- nothing turned in its block -/
theorem OwnM.keep (h : OwnM w base e size v n xs) (hk : ∀ k, v.ownBlock = some k → w'.heap[k]? = w.heap[k]?) : OwnM w' base e size v n xs := by
  refine ⟨h.1, ?_⟩
  rcases h.2 with hn | ⟨g, cap, cur, fr, rfl, hb, hgg, rest⟩
  · exact .inl hn
  · exact .inr ⟨g, cap, cur, fr, rfl, hb, (hk g rfl).trans hgg, rest⟩
theorem OwnM.grown {row : Option Nat} (h : OwnM w base e size v n xs) (hg : w.grownBy w' row) (hne : ∀ k, v.ownBlock = some k → some k ≠ row) : OwnM w' base e size v n xs :=
  h.keep fun k hk => hg.block k (h.lt k hk).2 (hne k hk)
theorem OwnM.alloc (h : OwnM w base e size v n xs) (o : Obj) : OwnM (w.alloc o) base e size v n xs := h.keep fun k hk => Below.heap_alloc w o k (h.lt k hk).2
theorem OwnM.drew (h : OwnM w base e size v n xs) : OwnM w.drew base e size v n xs := h
theorem OwnM.below {B : Nat} (h : OwnM w base e size v n xs) (hg : Below B w w') (hB : w.heap.size ≤ B) : OwnM w' base e size v n xs :=
  h.keep fun k hk => hg.block k (Nat.lt_of_lt_of_le (h.lt k hk).2 hB)
theorem OwnM.setCell (h : OwnM w base e size v n xs) {p : Addr} (hp : ∀ k, v.ownBlock = some k → k ≠ p.block) (u : Value) : OwnM (w.setCell p u) base e size v n xs :=
  h.keep fun k hk => Below.heap_setCell w p u k (hp k hk)
theorem OwnM.lower (h : OwnM w base e size v n xs) {b : Nat} (hb : b ≤ base) : OwnM w b e size v n xs := by
  refine ⟨h.1, ?_⟩
  rcases h.2 with hn | ⟨g, cap, cur, fr, rfl, hb', rest⟩
  · exact .inl hn
  · exact .inr ⟨g, cap, cur, fr, rfl, Nat.le_trans hb hb', rest⟩
theorem OwnM.form (h : OwnM w base e size v n xs) : ∃ A c, v = .slice A n c := by
  rcases h.2 with ⟨rfl, rfl⟩ | ⟨g, cap, cur, fr, rfl, _⟩
  · exact ⟨none, 0, rfl⟩
  · exact ⟨_, cap, rfl⟩
theorem OwnM.below_grown {w0 w1 : World} {B : Nat} (h : OwnM w base e size v n xs) (hg : w.grownBy w1 v.ownBlock) (hb : Below B w0 w) (hB : B ≤ w.heap.size) (hbase : B ≤ base) : Below B w0 w1 :=
  hb.grown hg hB (fun k hk => Nat.le_trans hbase (h.lt k hk).1)
/-- its cells -/
theorem OwnM.cells (h : OwnM w base e size v n xs) (hn : 0 < n) : ∃ g cap, v = .slice (some ⟨g, 0, none⟩) n cap ∧ base ≤ g ∧ g < w.heap.size ∧ n ≤ cap ∧ cap ≤ maxLen ∧ (∀ j u, xs[j]? = some u → w.cell? ⟨g, j, none⟩ = some u) ∧ (∀ j, j < n * size → w.frozen? ⟨g, j, none⟩ = false) := by
  rcases h.2 with ⟨rfl, rfl⟩ | ⟨g, cap, cur, fr, rfl, hb, hgg, hfr, hnc, hcm, hcs, htake⟩
  · omega
  · have hle : n * size ≤ cap * size := Nat.mul_le_mul_right _ hnc
    refine ⟨g, cap, rfl, hb, (Array.getElem?_eq_some_iff.1 hgg).1, hnc, hcm, fun j u hu => ?_, fun j hj => ?_⟩
    · rw [cell_of_row w g j cur e fr hgg]
      rw [← htake, List.getElem?_take] at hu
      split at hu
      · simpa using hu
      · cases hu
    · simp only [World.frozen?, hgg]
      rcases hfr with h | h
      · by_cases h2 : fr.1 ≤ j
        · simp [show ¬ (j < fr.2) by omega]
        · simp [h2]
      · simp [show ¬ (fr.1 ≤ j) by omega]
end

/-- what is appended: a slice's elements (nil too), or a string's bytes -/
structure Src (P : Program) (w : World) (t2 : TypeId) (size : Nat) (x : Value) (m : Nat) (news : List Value) : Prop where
  len : news.length = m * size
  one : ∀ u ∈ news, u.oneCell' = true
  two : (∃ e', P.underlying t2 = some (.slice e')) ∨ P.underlying t2 = some .string
  lenOf : ∀ W, (Builtin.lenOf x).run P W = .ok m W
  first : ∀ W : World, (∀ a, W.cell? a = w.cell? a) → (Builtin.firstCells size m x).run P W = .ok news.toArray W

theorem Src.slice {w : World} {t2 e : TypeId} {size m c : Nat} {ad : Addr} {news : List Value} (ht : P.underlying t2 = some (.slice e)) (hl : news.length = m * size)
    (hnews : ∀ j u, news[j]? = some u → w.cell? (ad.add j) = some u) (h1 : ∀ u ∈ news, u.oneCell' = true) : Src P w t2 size (.slice (some ad) m c) m news :=
  ⟨hl, h1, .inl ⟨_, ht⟩, fun W => rfl, fun W hW => run_firstCells_some (P := P) W size m ad m c news hl (fun j u hu => (hW _).trans (hnews j u hu))⟩
theorem Src.nil {w : World} {t2 e : TypeId} {size c : Nat} (ht : P.underlying t2 = some (.slice e)) : Src P w t2 size (.slice none 0 c) 0 [] :=
  ⟨by simp, (fun u h => by cases h), .inl ⟨_, ht⟩, fun W => rfl, fun W hW => run_firstCells_none (P := P) W size 0 0 c⟩
theorem Src.own {w : World} {t2 e : TypeId} {base size n : Nat} {v : Value} {xs : List Value} (ht : P.underlying t2 = some (.slice e)) (h : OwnM w base e size v n xs) (h1 : ∀ u ∈ xs, u.oneCell' = true) : Src P w t2 size v n xs := by
  rcases Nat.eq_zero_or_pos n with h0 | h0
  · subst h0
    have hx : xs = [] := List.eq_nil_of_length_eq_zero (by simpa using h.1)
    subst hx
    obtain ⟨A, c, rfl⟩ := h.form
    refine ⟨by simp, h1, .inl ⟨_, ht⟩, fun W => rfl, fun W hW => ?_⟩
    cases A with
    | none => exact run_firstCells_none (P := P) W size 0 0 c
    | some ad => exact run_firstCells_some (P := P) W size 0 ad 0 c [] (by simp) (fun j u hu => by simp at hu)
  · obtain ⟨g, cap, rfl, _, _, _, _, hc, _⟩ := h.cells h0
    exact Src.slice ht h.1 (fun j u hu => by rw [add_flat]; exact hc j u hu) h1
theorem Src.string {w : World} {t2 : TypeId} {s : ByteArray} (ht : P.underlying t2 = some .string) : Src P w t2 1 (.string s) s.size (s.data.toList.map fun b => Value.int .u8 b.toNat) :=
  ⟨by simp, (fun u h => by
      obtain ⟨b, _, rfl⟩ := List.mem_map.1 h
      rfl), .inr ht, fun W => rfl, fun W hW => by
      have e : s.extract 0 s.size = s := by simp
      simp only [Builtin.firstCells, e, Sem.run_pure]
      congr 1
      apply Array.ext'
      simp⟩

theorem run_append_m (w : World) (base : Nat) (t t2 ty e : TypeId) (i : TypeInfo) (z : Value) (size bytes : Nat) (ht : P.underlying t = some (.slice e)) (hi : P.info? e = some i) (hz : i.zero = some z)
    (hsize : i.size = size) (hby : i.bytes = bytes) (hzs : z.cells.size = size) (hsz : 0 < size)
    (v : Value) (n : Nat) (xs : List Value) (hown : OwnM w base e size v n xs) (x : Value) (m : Nat) (news : List Value) (hsrc : Src P w t2 size x m news)
    (h63 : n + m ≤ maxLen) (hbytes : (n + m) * bytes ≤ 140737488355328) (hbase : base ≤ w.heap.size) :
    ∃ v' w', (Builtin.append_ #[t, t2] ty #[v, x]).run P w = .ok v' w' ∧ OwnM w' base e size v' (n + m) (xs ++ news) ∧ w.grownBy w' v.ownBlock ∧
      (v'.ownBlock = v.ownBlock ∨ v'.ownBlock = some w.heap.size) := by
  subst hsize
  subst hby
  have hsmall : ¬ (9223372036854775807 < (n : Int) + (m : Int)) := by simp only [maxLen] at h63; omega
  have hsmall0 : n = 0 → ¬ (9223372036854775807 < (m : Int)) := by simp only [maxLen] at h63; omega
  have hlen : (xs ++ news).length = (n + m) * i.size := by rw [List.length_append, hown.1, hsrc.len, Nat.add_mul]
  have hl := hsrc.lenOf
  have hf := hsrc.first w (fun _ => rfl)
  have hfd := hsrc.first w.drew (fun _ => rfl)
  -- what a new row is
  have made : ∀ (old : Nat), old < n + m → ∀ (row : Option Nat),
      OwnM (w.drew.alloc (.cells (xs.toArray ++ news.toArray ++ Builtin.zeroCells z.cells (grownCap w (n + m) old e - (n + m))) e)) base e i.size (.slice (some ⟨w.heap.size, 0, none⟩) (n + m) (grownCap w (n + m) old e)) (n + m) (xs ++ news) ∧
      w.grownBy (w.drew.alloc (.cells (xs.toArray ++ news.toArray ++ Builtin.zeroCells z.cells (grownCap w (n + m) old e - (n + m))) e)) row := by
    intro old ho row
    have hge := grownCap_ge w (n + m) old e
    have hcm : grownCap w (n + m) old e ≤ maxLen := grownCap_le_maxLen w (n + m) old e h63
    refine ⟨⟨hlen, .inr ⟨w.heap.size, _, _, (0, 0), rfl, hbase, heap_alloc_new w.drew _, .inl (Nat.le_refl _), hge, hcm, ?_, ?_⟩⟩, ⟨rfl, rfl, rfl, by simp, fun k hk _ => Below.heap_alloc w.drew _ k hk⟩⟩
    · simp only [Array.size_append, List.size_toArray, size_zeroCells, hzs, hown.1, hsrc.len, ← Nat.add_mul]
      congr 1
      omega
    · simp only [Array.toList_append, List.append_assoc]
      rw [← List.append_assoc, ← hlen]
      exact List.take_left
  have hfit : ∀ old, old < n + m → ¬ (281474976710656 < Builtin.nextslicecap (n + m) old * i.bytes) := fun old ho => by
    have := growslice_fits (by omega : old < n + m) hbytes
    omega
  rcases hown.2 with ⟨rfl, rfl⟩ | ⟨g, cap, cur, fr, rfl, hbg, hg, hfr, hnc, hcm, hcs, htake⟩
  · have hx : xs = [] := List.eq_nil_of_length_eq_zero (by simpa using hown.1)
    subst hx
    by_cases hm : m = 0
    · subst hm
      have hn : news = [] := List.eq_nil_of_length_eq_zero (by simpa using hsrc.len)
      subst hn
      refine ⟨.slice none 0 0, w, ?_, OwnM.nil w base e i.size, grown_refl w _, .inl rfl⟩
      rcases hsrc.two with ⟨e', hU⟩ | hU <;> simp [Builtin.append_, run_underlying ht, run_underlying hU, sizeOf, typeInfo, hi, hl, hf]
    · have hgr := made 0 (by omega) (Value.ownBlock (.slice none 0 0))
      have h48 := hfit 0 (by omega)
      simp only [Nat.zero_add, List.nil_append, Array.empty_append] at hgr ⊢ h48
      refine ⟨_, _, ?_, hgr.1, hgr.2, .inr rfl⟩
      have hs0 := hsmall0 rfl
      rcases hsrc.two with ⟨e', hU⟩ | hU <;> simp [Builtin.append_, run_underlying ht, run_underlying hU, sizeOf, typeInfo, zeroValue, hi, hz, hl, hm, hs0, h48, Question.forced, run_firstCells_none, hfd, newRow, grownCap]
  · by_cases hroom : n + m ≤ cap
    · have hle : n * i.size + news.length ≤ cur.size := by rw [hsrc.len, hcs, ← Nat.add_mul]; exact Nat.mul_le_mul_right _ hroom
      have hst := run_storeCells_m (P := P) g (n * i.size) e fr news 0 cur w hg (by simpa using hle) hfr hsrc.one
      simp only [Nat.add_zero] at hst
      refine ⟨.slice (some ⟨g, 0, none⟩) (n + m) cap, w.setRow g (cur.toList.take (n * i.size) ++ news ++ cur.toList.drop (n * i.size + news.length)).toArray, ?_,
        ⟨hlen, .inr ⟨g, cap, _, fr, rfl, hbg, setRow_heap w g cur _ e _ hg, ?_, hroom, hcm, ?_, ?_⟩⟩, ⟨rfl, rfl, rfl, by simp, fun k _ hk => setRow_other w g k _ (fun e => hk (by simp [Value.ownBlock, e]))⟩, .inl rfl⟩
      · rcases hsrc.two with ⟨e', hU⟩ | hU <;> simp [Builtin.append_, run_underlying ht, run_underlying hU, sizeOf, typeInfo, hi, hl, hroom, hf, Addr.add_lit, hst]
      · have hsz2 : ((cur.toList.take (n * i.size) ++ news ++ cur.toList.drop (n * i.size + news.length)).toArray).size = cur.size := by
          simp only [List.size_toArray, List.length_append, List.length_take, List.length_drop, Array.length_toList]
          omega
        rw [hsz2]
        exact hfr
      · simp only [List.size_toArray, List.length_append, List.length_take, List.length_drop, Array.length_toList]
        omega
      · rw [htake, ← hlen]
        exact List.take_left
    · have holds : ∀ j u, xs[j]? = some u → w.drew.cell? ((⟨g, 0, none⟩ : Addr).add j) = some u := by
        intro j u hu
        rw [add_flat]
        show w.cell? _ = _
        rw [cell_of_row w g j cur e fr hg]
        rw [← htake, List.getElem?_take] at hu
        split at hu
        · simpa using hu
        · cases hu
      have hfo := run_firstCells_some (P := P) w.drew i.size n ⟨g, 0, none⟩ n cap xs hown.1 holds
      have hgr := made cap (by omega) (Value.ownBlock (.slice (some ⟨g, 0, none⟩) n cap))
      have h48 := hfit cap (by omega)
      refine ⟨_, _, ?_, hgr.1, hgr.2, .inr rfl⟩
      rcases hsrc.two with ⟨e', hU⟩ | hU <;> simp [Builtin.append_, run_underlying ht, run_underlying hU, sizeOf, typeInfo, zeroValue, hi, hz, hl, hroom, hsmall, h48, Question.forced, hfo, hfd, newRow, grownCap, ← List.append_assoc, ← Array.append_assoc]

theorem wp_append_m {w : World} {o : Oper} {a : Act} {K : Act → World → Prop} {Q : Exit → Act → World → Prop} (s x : Operand) (t t2 : TypeId)
    (ho : o.op = .call { callee := .builtin .append, args := #[s, x], argTypes := #[t, t2] })
    (base : Nat) (e : TypeId) (i : TypeInfo) (z : Value) (size bytes : Nat) (ht : P.underlying t = some (.slice e)) (hi : P.info? e = some i) (hz : i.zero = some z)
    (hsize : i.size = size) (hby : i.bytes = bytes) (hzs : z.cells.size = size) (hsz : 0 < size)
    (v : Value) (n : Nat) (xs : List Value) (hs : a.eval s = v) (hown : OwnM w base e size v n xs)
    (y : Value) (m : Nat) (news : List Value) (hx : a.eval x = y) (hsrc : Src P w t2 size y m news)
    (h63 : n + m ≤ maxLen) (hbytes : (n + m) * bytes ≤ 140737488355328) (hbase : base ≤ w.heap.size)
    (h : ∀ v' w', OwnM w' base e size v' (n + m) (xs ++ news) → w.grownBy w' v.ownBlock → (v'.ownBlock = v.ownBlock ∨ v'.ownBlock = some w.heap.size) → K (a.put o.dst v') w') : o.wp P a w K Q := by
  obtain ⟨v', w', hr, h2, h3, h4⟩ := run_append_m (P := P) w base t t2 o.type e i z size bytes ht hi hz hsize hby hzs hsz v n xs hown y m news hsrc h63 hbytes hbase
  unfold Oper.wp execOp
  simp only [ho, resolve, invoke, builtin, Sem.run_bind, Sem.run_pure, Result.andThen_ok, List.map_toArray, List.map_cons, List.map_nil, hs, hx, hr]
  exact h v' w' h2 h3 h4

theorem wpList_append_m {w : World} {ops : Array Oper} {rest : List Oper} {o : Oper} {a : Act} {Q : Exit → Act → World → Prop} (hgd : o.guard = none) (s x : Operand) (t t2 : TypeId)
    (ho : o.op = .call { callee := .builtin .append, args := #[s, x], argTypes := #[t, t2] })
    (base : Nat) (e : TypeId) (i : TypeInfo) (z : Value) (size bytes : Nat) (ht : P.underlying t = some (.slice e)) (hi : P.info? e = some i) (hz : i.zero = some z)
    (hsize : i.size = size) (hby : i.bytes = bytes) (hzs : z.cells.size = size) (hsz : 0 < size)
    (v : Value) (n : Nat) (xs : List Value) (hs : a.eval s = v) (hown : OwnM w base e size v n xs)
    (y : Value) (m : Nat) (news : List Value) (hx : a.eval x = y) (hsrc : Src P w t2 size y m news)
    (h63 : n + m ≤ maxLen) (hbytes : (n + m) * bytes ≤ 140737488355328) (hbase : base ≤ w.heap.size)
    (h : ∀ v' w', OwnM w' base e size v' (n + m) (xs ++ news) → w.grownBy w' v.ownBlock → (v'.ownBlock = v.ownBlock ∨ v'.ownBlock = some w.heap.size) → wpList P ops Q rest (a.put o.dst v') w') : wpList P ops Q (o :: rest) a w :=
  wpList_plain hgd fun _ hK => wp_append_m s x t t2 ho base e i z size bytes ht hi hz hsize hby hzs hsz v n xs hs hown y m news hx hsrc h63 hbytes hbase fun v' w' h2 h3 h4 => hK _ _ (h v' w' h2 h3 h4)

theorem step_append_m {w : World} {ops : Array Oper} {o : Oper} {a : Act} {K : Act → World → Prop} {Q : Exit → Act → World → Prop} {E : Prop} (hgd : o.guard = none) (s x : Operand) (t t2 : TypeId)
    (ho : o.op = .call { callee := .builtin .append, args := #[s, x], argTypes := #[t, t2] })
    (base : Nat) (e : TypeId) (i : TypeInfo) (z : Value) (size bytes : Nat) (ht : P.underlying t = some (.slice e)) (hi : P.info? e = some i) (hz : i.zero = some z)
    (hsize : i.size = size) (hby : i.bytes = bytes) (hzs : z.cells.size = size) (hsz : 0 < size)
    (v : Value) (n : Nat) (xs : List Value) (hs : a.eval s = v) (hown : OwnM w base e size v n xs)
    (y : Value) (m : Nat) (news : List Value) (hx : a.eval x = y) (hsrc : Src P w t2 size y m news)
    (h63 : n + m ≤ maxLen) (hbytes : (n + m) * bytes ≤ 140737488355328) (hbase : base ≤ w.heap.size)
    (h : ∀ v' w', OwnM w' base e size v' (n + m) (xs ++ news) → w.grownBy w' v.ownBlock → (v'.ownBlock = v.ownBlock ∨ v'.ownBlock = some w.heap.size) → K (a.put o.dst v') w') :
    if Region.wanted o (yielded ops a.tmps) = true then Oper.wp P o a w K Q else E := by
  have hw : Region.wanted o (yielded ops a.tmps) = true := by simp [Region.wanted, hgd]
  rw [if_pos hw]
  exact wp_append_m s x t t2 ho base e i z size bytes ht hi hz hsize hby hzs hsz v n xs hs hown y m news hx hsrc h63 hbytes hbase h

/-- a string's bytes as values -/
def byteVals (l : List UInt8) : List Value := l.map fun b => Value.int .u8 b.toNat
/-- bytes of a string: the row that the conversion lays -/
theorem OwnM.of_bytes (w : World) (e : TypeId) (s : ByteArray) (base : Nat) (hb : base ≤ w.heap.size) (hs : s.size ≤ maxLen) :
    OwnM (w.drew.alloc (.cells (bytesRow s (grownCap w s.size 0 e)) e ((bytesRow s (grownCap w s.size 0 e)).size, (bytesRow s (grownCap w s.size 0 e)).size + 1))) base e 1
      (.slice (some ⟨w.heap.size, 0, none⟩) s.size (grownCap w s.size 0 e)) s.size (byteVals s.data.toList) := by
  have hge := grownCap_ge w s.size 0 e
  have hcm : grownCap w s.size 0 e ≤ maxLen := grownCap_le_maxLen w s.size 0 e hs
  refine ⟨by simp [byteVals], .inr ⟨w.heap.size, _, _, _, rfl, hb, heap_alloc_new w.drew _, .inr (Nat.le_refl _), hge, hcm, ?_, ?_⟩⟩
  · simp only [bytesRow, Array.size_append, Array.size_map, Array.size_replicate, Nat.mul_one]
    show s.size + _ = _
    omega
  · simp only [bytesRow, Array.toList_append, Nat.mul_one]
    rw [show s.size = (Array.map (fun b : UInt8 => Value.int .u8 b.toNat) s.data).toList.length by simp]
    rw [List.take_left]
    simp [byteVals]

/-- string(b) of owned bytes -/
theorem run_string_m (w : World) (src dst e : TypeId) (base n : Nat) (v : Value) (l : List UInt8) (hs : P.underlying src = some (.slice e)) (he : P.underlying e = some (.int .u8)) (hd : P.underlying dst = some .string)
    (h : OwnM w base e 1 v n (byteVals l)) : (convert src dst v).run P w = .ok (.string ⟨l.toArray⟩) w := by
  have hl : l.length = n := by have := h.1; simpa [byteVals] using this
  rcases h.2 with ⟨rfl, rfl⟩ | ⟨g, cap, cur, fr, rfl, hb, hgg, hfr, hnc, hcm, hcs, htake⟩
  · have : l = [] := List.eq_nil_of_length_eq_zero hl
    subst this
    exact Lib.run_convert_nil_bytes (P := P) w src dst e 0 hs he hd
  · subst hl
    refine run_convert_bytes_back (P := P) w src dst e ⟨g, 0, none⟩ cap l hs he hd (fun j hj => ?_)
    rw [add_flat, cell_of_row w g j cur e fr hgg]
    have hj' : (byteVals l)[j]? = some (.int .u8 (l[j].toNat : Int)) := by simp [byteVals, hj]
    rw [← htake, List.getElem?_take] at hj'
    split at hj'
    · simpa using hj'
    · cases hj'
end
end Go.Proofs.YtojiieghjhjoaaaGreat
