/-
  Timers: slices of what has come due, and what the sort makes of them. Conditions: sizes.
-/
import Derived.Test.YtcgegaahdbnacaaWhE
import Derived.Shelf.SlSortCmp.NoneTotal
set_option linter.unusedVariables false
set_option linter.unusedSimpArgs false
namespace Go.Proofs.Ytcgegaahdbnacaa
open Go.RowKit Go.MapKept Go.Shelf Go.Lib
open Go.Sort hiding Below
open Go.Maps (Keyed)

instance : Inhabited Tm := ⟨⟨0, ⟨0, ByteArray.empty, 0⟩⟩⟩
def flatT (l : List Tm) : List Value := l.flatMap encT
theorem flatT_length : ∀ l : List Tm, (flatT l).length = l.length * 4
  | [] => rfl
  | p :: l => by
    have ih := flatT_length l
    unfold flatT at ih ⊢
    rw [List.flatMap_cons, List.length_append, ih]
    simp only [List.length_cons, encT, List.length_nil]
    omega
theorem flatT_append (l m : List Tm) : flatT (l ++ m) = flatT l ++ flatT m := List.flatMap_append
theorem encT_one (x : Tm) : ∀ v ∈ encT x, v.oneCell' = true := fun v hv => by
  simp only [encT, List.mem_cons, List.not_mem_nil, or_false] at hv
  rcases hv with rfl | rfl | rfl | rfl <;> rfl
theorem flatT_one (l : List Tm) : ∀ u ∈ flatT l, u.oneCell' = true := fun u h => by
  obtain ⟨p, _, hu⟩ := List.mem_flatMap.1 h
  exact encT_one p u hu
theorem flatT_at : ∀ (l : List Tm) (i : Nat) (x : Tm), l[i]? = some x → ∀ c, c < 4 → (flatT l)[i * 4 + c]? = (encT x)[c]?
  | [], i, x, h, c, hc => by simp at h
  | p :: l, 0, x, h, c, hc => by
    simp only [List.getElem?_cons_zero, Option.some.injEq] at h
    subst h
    unfold flatT
    rw [List.flatMap_cons, List.getElem?_append_left (by simp [encT]; omega), Nat.zero_mul, Nat.zero_add]
  | p :: l, i + 1, x, h, c, hc => by
    have ih := flatT_at l i x (by simpa using h) c hc
    unfold flatT at ih ⊢
    rw [List.flatMap_cons, List.getElem?_append_right (by simp [encT]; omega), ← ih]
    congr 1
    simp only [encT, List.length_cons, List.length_nil]
    omega
theorem flatK_T (d : Array Tm) : (flatK encT 4 d).toList = flatT d.toList := by
  apply List.ext_getElem?
  intro t
  by_cases ht : t < d.size * 4
  · have hi : t / 4 < d.size := by omega
    have h1 : d.toList[t / 4]? = some d[t / 4] := by rw [List.getElem?_eq_getElem (by simpa using hi)]; simp
    have h2 := flatT_at d.toList (t / 4) _ h1 (t % 4) (by omega)
    rw [show t / 4 * 4 + t % 4 = t by omega] at h2
    rw [h2]
    have h3 := get_flatK encT 4 d t ht
    have h4 : t < (flatK encT 4 d).size := by simpa using ht
    rw [getElem!_pos _ t h4, getElem!_pos d _ hi] at h3
    rw [List.getElem?_eq_getElem (by simpa using h4)]
    simp only [Array.getElem_toList]
    rw [h3]
    have h5 : t % 4 < (encT d[t / 4]).length := by simp [encT]; omega
    have h6 : (encT d[t / 4])[t % 4]! = (encT d[t / 4])[t % 4] := getElem!_pos (encT d[t / 4]) (t % 4) h5
    rw [h6, List.getElem?_eq_getElem h5]
  · rw [List.getElem?_eq_none (by simp; omega), List.getElem?_eq_none (by rw [flatT_length]; simp; omega)]

/-- what has come due, as a slice of the call's own -/
def FiredAt (w : World) (base : Nat) (v : Value) (l : List Tm) : Prop := OwnM w base 32 4 v l.length (flatT l)
theorem FiredAt.at_ {w : World} {base i : Nat} {v : Value} {l : List Tm} {x : Tm} (h : FiredAt w base v l) (hi : l[i]? = some x) :
    ∃ g cap, v = .slice (some ⟨g, 0, none⟩) l.length cap ∧ base ≤ g ∧ g < w.heap.size ∧ l.length ≤ cap ∧ cap ≤ maxLen ∧ i < l.length ∧
      w.cell? ⟨g, i * 4, none⟩ = some (.int .u64 (x.at_ : Nat)) ∧ w.cell? ⟨g, i * 4 + 1, none⟩ = some (.int .i64 x.k.kind) ∧ w.cell? ⟨g, i * 4 + 2, none⟩ = some (.string x.k.peer) ∧ w.cell? ⟨g, i * 4 + 3, none⟩ = some (.int .i64 x.k.fam) := by
  have hl : i < l.length := (List.getElem?_eq_some_iff.1 hi).1
  obtain ⟨g, cap, hv, hb, hg, hn, hc, hcell, _⟩ := OwnM.cells h (by omega)
  have f := flatT_at l i x hi
  exact ⟨g, cap, hv, hb, hg, hn, hc, hl, hcell _ _ (f 0 (by omega)), hcell _ _ (f 1 (by omega)), hcell _ _ (f 2 (by omega)), hcell _ _ (f 3 (by omega))⟩
theorem Src.new {P : Program} {w : World} {t2 e : TypeId} {size c : Nat} (cs : Array Value) (te : TypeId) (ht : P.underlying t2 = some (.slice e)) (hs : cs.size = size) (h1 : ∀ u ∈ cs.toList, u.oneCell' = true) :
    Src P (w.alloc (.cells cs te)) t2 size (.slice (some ⟨w.heap.size, 0, none⟩) 1 c) 1 cs.toList :=
  Src.slice ht (by simp [hs]) (fun j x hx => by
    rw [add_flat, cell_of_row _ w.heap.size j _ _ _ (heap_alloc_new w _)]
    simpa using hx) h1
theorem infoFired : (Try.prog.info? 32).map (fun i => (i.zero, i.size, i.bytes)) = some (some (.agg #[.int .u64 0, .int .i64 0, .string ⟨#[]⟩, .int .i64 0]), 4, 40) := by kernel_rfl

theorem FiredAt.holds {w : World} {base g cap : Nat} {l : List Tm} (h : FiredAt w base (.slice (some ⟨g, 0, none⟩) l.length cap) l) (hl : 0 < l.length) : HoldsK encT 4 w g 0 l.toArray := by
  obtain ⟨g', cap', hv, hb, hg, hn, hc, hcell, hfr⟩ := OwnM.cells h hl
  simp only [Value.slice.injEq, Option.some.injEq, Addr.mk.injEq] at hv
  obtain ⟨⟨rfl, _⟩, _, rfl⟩ := hv
  intro j hj
  rw [size_flatK] at hj
  have h4 : j < (flatK encT 4 l.toArray).size := by simpa using hj
  rw [getElem!_pos _ j h4, Nat.zero_add]
  refine ⟨hcell j _ ?_, hfr j (by simpa using hj)⟩
  have := flatK_T l.toArray
  simp only at this
  rw [← this, List.getElem?_eq_getElem (by simpa using h4)]
  simp
theorem FiredAt.sorted {w : World} {base g cap : Nat} {l : List Tm} (h : FiredAt w base (.slice (some ⟨g, 0, none⟩) l.length cap) l) (hl : 0 < l.length) {d : Array Tm} (hd : d.size = l.length) (n : Nat) (os : Array Obj) :
    FiredAt (sortWorldK encT 4 w g 0 n d os) base (.slice (some ⟨g, 0, none⟩) d.toList.length cap) d.toList ∧ w.grownBy (sortWorldK encT 4 w g 0 n d os) (some g) := by
  have hlen : d.toList.length = l.length := by simpa using hd
  rcases h.2 with ⟨_, h0⟩ | ⟨g', cap', cur, fr, hv, hb, hgg, hfr, hnc, hcm, hcs, htake⟩
  · omega
  · simp only [Value.slice.injEq, Option.some.injEq, Addr.mk.injEq] at hv
    obtain ⟨⟨rfl, _⟩, _, rfl⟩ := hv
    have hgs : g < w.heap.size := (Array.getElem?_eq_some_iff.1 hgg).1
    have hblock : (sortWorldK encT 4 w g 0 n d os).heap[g]? = some (.cells (putCells id 0 (flatK encT 4 d) cur) 32 fr) := by
      unfold sortWorldK grow putRowK putRow mapBlock Go.Sort.ahead
      simp only
      rw [Array.getElem?_append_left (by simpa using hgs), Array.getElem?_modify, if_pos rfl, hgg]
      rfl
    refine ⟨⟨by rw [flatT_length], .inr ⟨g, cap, _, fr, rfl, hb, hblock, ?_, by rw [hlen]; exact hnc, hcm, by simp [putCells, hcs], ?_⟩⟩, rfl, rfl, rfl, ?_, fun i hi hx => ?_⟩
    · simpa [putCells] using hfr
    · rw [hlen]
      apply List.ext_getElem?
      intro j
      rw [List.getElem?_take]
      by_cases hj : j < l.length * 4
      · have hjc : j < cur.size := by
          have : l.length * 4 ≤ cap * 4 := Nat.mul_le_mul_right _ hnc
          omega
        rw [if_pos hj, ← flatK_T d]
        have h4 : j < (flatK encT 4 d).size := by rw [size_flatK, hd]; exact hj
        rw [List.getElem?_eq_getElem (by simpa [putCells] using hjc), List.getElem?_eq_getElem (by simpa using h4)]
        simp only [putCells, Array.getElem_toList, Array.getElem_mapIdx, Nat.zero_le, Nat.zero_add, h4, and_self, if_true, Nat.sub_zero, id_eq]
        rw [getElem!_pos _ j h4]
      · rw [if_neg hj, List.getElem?_eq_none (by rw [flatT_length, hlen]; omega)]
    · unfold sortWorldK grow putRowK putRow mapBlock Go.Sort.ahead
      simp
    · unfold sortWorldK grow putRowK putRow mapBlock Go.Sort.ahead
      simp only
      rw [Array.getElem?_append_left (by simpa using hi), Array.getElem?_modify, if_neg (fun e => hx (by rw [e]))]

def SortPost (w : World) (base : Nat) (l : List Tm) (v : Value) (e : Ending) (w' : World) : Prop :=
  e = .returned (.tuple #[]) ∧ ∃ m, m.Perm l ∧ (l.Pairwise (fun p q => p ≠ q) → Ord m) ∧ FiredAt w' base v m ∧ w.grownBy w' v.ownBlock
set_option maxHeartbeats 1000000 in
theorem sort_any (w : World) (base : Nat) (l : List Tm) (v : Value) (h : FiredAt w base v l) (hl : l.length ≤ 1000000) :
    Calls Try.prog 34 #[v, .func (.func 35) #[] #[]] w (SortPost w base l v) := by
  by_cases h0 : 0 < l.length
  · obtain ⟨g, cap, rfl, hb, hg, _⟩ := OwnM.cells h h0
    have eg : ∀ args w, (callFunc 35 args).run Try.prog w = .ok (.enter 35 args) w := enters_of Try.func35 (by kernel_rfl) rfl
    have hcon := AnyQ.slices_SortFunc Try.sortFired 4 Try.isAgg32 Try.sizeOf32 encT (fun _ => rfl) encT_one cfT swoT 35 #[] g 0 cap l.toArray w eg (fun m os dk hdk x y => cmp_clo x y _) (h.holds h0) hg (by simp; omega)
    refine Calls.mono hcon ?_
    rintro e w' ⟨rfl, d, n, os, hp, hs, rfl⟩
    obtain ⟨p1, p2, p3⟩ := hp
    have hd : d.size = l.length := by simpa using p1
    obtain ⟨f1, f2⟩ := h.sorted h0 hd n os
    have hperm : d.toList.Perm l := by
      have p3 : (List.take l.length d.toList).Perm l := by simpa [hd] using p3
      rwa [List.take_of_length_le (by simp [hd])] at p3
    have hlen := hperm.length_eq
    rw [hlen] at f1
    refine ⟨rfl, d.toList, hperm, fun hne => ?_, f1, f2⟩
    have hne' : d.toList.Pairwise (fun p q => p ≠ q) := (hperm.pairwise_iff (fun a => fun e => a e.symm)).2 hne
    unfold Ord
    rw [List.pairwise_iff_getElem] at hne' ⊢
    intro i j hi hj hij
    have hs' := hs i j (Nat.zero_le _) hij (by simp at hj; simpa [hd] using hj)
    simp only [Array.length_toList] at hi hj
    rw [getElem!_pos d j hj, getElem!_pos d i hi, ltOf_cfT] at hs'
    simp only [Array.getElem_toList]
    rcases tlt_total d[i] d[j] with e | e | e
    · exact e
    · exact absurd (show d.toList[i] = d.toList[j] by simpa using e) (hne' i j (by simpa using hi) (by simpa using hj) hij)
    · rw [e] at hs'; cases hs'
  · have hnil : l = [] := List.eq_nil_of_length_eq_zero (by omega)
    subst hnil
    obtain ⟨A, c, rfl⟩ := OwnM.form h
    refine Calls.mono (AnyF.slices_SortFunc_none Try.sortFired A c (.func (.func 35) #[] #[]) w) ?_
    rintro e w' ⟨rfl, rfl⟩
    exact ⟨rfl, [], List.Perm.refl _, fun _ => Ord.nil, h, grown_refl _ _⟩
end Go.Proofs.Ytcgegaahdbnacaa
