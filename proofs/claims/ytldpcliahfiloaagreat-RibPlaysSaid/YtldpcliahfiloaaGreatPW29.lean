/-
  Several texts in one.
-/
import Derived.Test.YtldpcliahfiloaaGreatPW23
import Derived.Test.YtldpcliahfiloaaGreatPW22
import Derived.Test.YtldpcliahfiloaaGreatPW4
import Derived.Shelf.SlSortCmp.NoneTotal
set_option linter.unusedVariables false
set_option linter.unusedSimpArgs false
namespace Go.Proofs.YtldpcliahfiloaaGreat
open Go.RowKit Go.MapKept Go.Shelf Go.Lib
open Go.Sort hiding Below
open Go.Maps (Keyed)

instance : Inhabited Pk := ⟨⟨0, 0, ByteArray.empty, 0, 0⟩⟩
def flatPk (l : List Pk) : List Value := l.flatMap Pk.cs
theorem flatPk_length : ∀ l : List Pk, (flatPk l).length = l.length * 5
  | [] => rfl
  | p :: l => by
    have ih := flatPk_length l
    unfold flatPk at ih ⊢
    rw [List.flatMap_cons, List.length_append, ih]
    simp only [List.length_cons, Pk.cs, List.length_nil]
    omega
theorem flatPk_append (l m : List Pk) : flatPk (l ++ m) = flatPk l ++ flatPk m := List.flatMap_append
theorem Pk.cs_one (x : Pk) : ∀ v ∈ Pk.cs x, v.oneCell' = true := fun v hv => by
  simp only [Pk.cs, List.mem_cons, List.not_mem_nil, or_false] at hv
  rcases hv with rfl | rfl | rfl | rfl | rfl <;> rfl
theorem flatPk_one (l : List Pk) : ∀ u ∈ flatPk l, u.oneCell' = true := fun u h => by
  obtain ⟨p, _, hu⟩ := List.mem_flatMap.1 h
  exact Pk.cs_one p u hu
theorem flatPk_at : ∀ (l : List Pk) (i : Nat) (x : Pk), l[i]? = some x → ∀ c, c < 5 → (flatPk l)[i * 5 + c]? = (Pk.cs x)[c]?
  | [], i, x, h, c, hc => by simp at h
  | p :: l, 0, x, h, c, hc => by
    simp only [List.getElem?_cons_zero, Option.some.injEq] at h
    subst h
    unfold flatPk
    rw [List.flatMap_cons, List.getElem?_append_left (by simp [Pk.cs]; omega), Nat.zero_mul, Nat.zero_add]
  | p :: l, i + 1, x, h, c, hc => by
    have ih := flatPk_at l i x (by simpa using h) c hc
    unfold flatPk at ih ⊢
    rw [List.flatMap_cons, List.getElem?_append_right (by simp [Pk.cs]; omega), ← ih]
    congr 1
    simp only [Pk.cs, List.length_cons, List.length_nil]
    omega
theorem flatK_Pk (d : Array Pk) : (flatK Pk.cs 5 d).toList = flatPk d.toList := by
  apply List.ext_getElem?
  intro t
  by_cases ht : t < d.size * 5
  · have hi : t / 5 < d.size := by omega
    have h1 : d.toList[t / 5]? = some d[t / 5] := by rw [List.getElem?_eq_getElem (by simpa using hi)]; simp
    have h2 := flatPk_at d.toList (t / 5) _ h1 (t % 5) (by omega)
    rw [show t / 5 * 5 + t % 5 = t by omega] at h2
    rw [h2]
    have h3 := get_flatK Pk.cs 5 d t ht
    have h4 : t < (flatK Pk.cs 5 d).size := by simpa using ht
    rw [getElem!_pos _ t h4, getElem!_pos d _ hi] at h3
    rw [List.getElem?_eq_getElem (by simpa using h4)]
    simp only [Array.getElem_toList]
    rw [h3]
    have h5 : t % 5 < (Pk.cs d[t / 5]).length := by simp [Pk.cs]; omega
    have h6 : (Pk.cs d[t / 5])[t % 5]! = (Pk.cs d[t / 5])[t % 5] := getElem!_pos (Pk.cs d[t / 5]) (t % 5) h5
    rw [h6, List.getElem?_eq_getElem h5]
  · rw [List.getElem?_eq_none (by simp; omega), List.getElem?_eq_none (by rw [flatPk_length]; simp; omega)]

/-- places, as a slice of the call's own -/
def PlsAt (w : World) (base : Nat) (v : Value) (l : List Pk) : Prop := OwnM w base 83 5 v l.length (flatPk l)
theorem PlsAt.at_ {w : World} {base i : Nat} {v : Value} {l : List Pk} {x : Pk} (h : PlsAt w base v l) (hi : l[i]? = some x) :
    ∃ g cap, v = .slice (some ⟨g, 0, none⟩) l.length cap ∧ base ≤ g ∧ g < w.heap.size ∧ l.length ≤ cap ∧ cap ≤ maxLen ∧ i < l.length ∧
      w.cell? ⟨g, i * 5, none⟩ = some (.int .i64 x.fam) ∧ w.cell? ⟨g, i * 5 + 1, none⟩ = some (.int .u64 x.rd) ∧ w.cell? ⟨g, i * 5 + 2, none⟩ = some (.string x.addr) ∧ w.cell? ⟨g, i * 5 + 3, none⟩ = some (.int .i64 x.len) ∧ w.cell? ⟨g, i * 5 + 4, none⟩ = some (.int .u32 (x.id : Nat)) := by
  have hl : i < l.length := (List.getElem?_eq_some_iff.1 hi).1
  obtain ⟨g, cap, hv, hb, hg, hn, hc, hcell, _⟩ := OwnM.cells h (by omega)
  have f := flatPk_at l i x hi
  exact ⟨g, cap, hv, hb, hg, hn, hc, hl, hcell _ _ (f 0 (by omega)), hcell _ _ (f 1 (by omega)), hcell _ _ (f 2 (by omega)), hcell _ _ (f 3 (by omega)), hcell _ _ (f 4 (by omega))⟩
theorem Src.new {P : Program} {w : World} {t2 e : TypeId} {size c : Nat} (cs : Array Value) (te : TypeId) (ht : P.underlying t2 = some (.slice e)) (hs : cs.size = size) (h1 : ∀ u ∈ cs.toList, u.oneCell' = true) :
    Src P (w.alloc (.cells cs te)) t2 size (.slice (some ⟨w.heap.size, 0, none⟩) 1 c) 1 cs.toList :=
  Src.slice ht (by simp [hs]) (fun j x hx => by
    rw [add_flat, cell_of_row _ w.heap.size j _ _ _ (heap_alloc_new w _)]
    simpa using hx) h1
theorem infoPk : (Tryz.prog.info? 83).map (fun i => (i.zero, i.size, i.bytes)) = some (some (.agg #[.int .i64 0, .int .u64 0, .string ⟨#[]⟩, .int .i64 0, .int .u32 0]), 5, 48) := by kernel_rfl

theorem PlsAt.holds {w : World} {base g cap : Nat} {l : List Pk} (h : PlsAt w base (.slice (some ⟨g, 0, none⟩) l.length cap) l) (hl : 0 < l.length) : HoldsK Pk.cs 5 w g 0 l.toArray := by
  obtain ⟨g', cap', hv, hb, hg, hn, hc, hcell, hfr⟩ := OwnM.cells h hl
  simp only [Value.slice.injEq, Option.some.injEq, Addr.mk.injEq] at hv
  obtain ⟨⟨rfl, _⟩, _, rfl⟩ := hv
  intro j hj
  rw [size_flatK] at hj
  have h4 : j < (flatK Pk.cs 5 l.toArray).size := by simpa using hj
  rw [getElem!_pos _ j h4, Nat.zero_add]
  refine ⟨hcell j _ ?_, hfr j (by simpa using hj)⟩
  have := flatK_Pk l.toArray
  simp only at this
  rw [← this, List.getElem?_eq_getElem (by simpa using h4)]
  simp
theorem PlsAt.sorted {w : World} {base g cap : Nat} {l : List Pk} (h : PlsAt w base (.slice (some ⟨g, 0, none⟩) l.length cap) l) (hl : 0 < l.length) {d : Array Pk} (hd : d.size = l.length) (n : Nat) (os : Array Obj) :
    PlsAt (sortWorldK Pk.cs 5 w g 0 n d os) base (.slice (some ⟨g, 0, none⟩) d.toList.length cap) d.toList ∧ w.grownBy (sortWorldK Pk.cs 5 w g 0 n d os) (some g) := by
  have hlen : d.toList.length = l.length := by simpa using hd
  rcases h.2 with ⟨_, h0⟩ | ⟨g', cap', cur, fr, hv, hb, hgg, hfr, hnc, hcm, hcs, htake⟩
  · omega
  · simp only [Value.slice.injEq, Option.some.injEq, Addr.mk.injEq] at hv
    obtain ⟨⟨rfl, _⟩, _, rfl⟩ := hv
    have hgs : g < w.heap.size := (Array.getElem?_eq_some_iff.1 hgg).1
    have hblock : (sortWorldK Pk.cs 5 w g 0 n d os).heap[g]? = some (.cells (putCells id 0 (flatK Pk.cs 5 d) cur) 83 fr) := by
      unfold sortWorldK grow putRowK putRow mapBlock Go.Sort.ahead
      simp only
      rw [Array.getElem?_append_left (by simpa using hgs), Array.getElem?_modify, if_pos rfl, hgg]
      rfl
    refine ⟨⟨by rw [flatPk_length], .inr ⟨g, cap, _, fr, rfl, hb, hblock, ?_, by rw [hlen]; exact hnc, hcm, by simp [putCells, hcs], ?_⟩⟩, rfl, rfl, rfl, ?_, fun i hi hx => ?_⟩
    · simpa [putCells] using hfr
    · rw [hlen]
      apply List.ext_getElem?
      intro j
      rw [List.getElem?_take]
      by_cases hj : j < l.length * 5
      · have hjc : j < cur.size := by
          have : l.length * 5 ≤ cap * 5 := Nat.mul_le_mul_right _ hnc
          omega
        rw [if_pos hj, ← flatK_Pk d]
        have h4 : j < (flatK Pk.cs 5 d).size := by rw [size_flatK, hd]; exact hj
        rw [List.getElem?_eq_getElem (by simpa [putCells] using hjc), List.getElem?_eq_getElem (by simpa using h4)]
        simp only [putCells, Array.getElem_toList, Array.getElem_mapIdx, Nat.zero_le, Nat.zero_add, h4, and_self, if_true, Nat.sub_zero, id_eq]
        rw [getElem!_pos _ j h4]
      · rw [if_neg hj, List.getElem?_eq_none (by rw [flatPk_length, hlen]; omega)]
    · unfold sortWorldK grow putRowK putRow mapBlock Go.Sort.ahead
      simp
    · unfold sortWorldK grow putRowK putRow mapBlock Go.Sort.ahead
      simp only
      rw [Array.getElem?_append_left (by simpa using hi), Array.getElem?_modify, if_neg (fun e => hx (by rw [e]))]

def PSortPost (w : World) (base : Nat) (l : List Pk) (v : Value) (e : Ending) (w' : World) : Prop :=
  e = .returned (.tuple #[]) ∧ ∃ m, m.Perm l ∧ (l.Pairwise (fun p q => p ≠ q) → OrdP m) ∧ PlsAt w' base v m ∧ w.grownBy w' v.ownBlock
set_option maxHeartbeats 1000000 in
theorem psort_any (w : World) (base : Nat) (l : List Pk) (v : Value) (h : PlsAt w base v l) (hl : l.length ≤ 1000000) :
    Calls Tryz.prog 45 #[v, .func (.func 46) #[] #[]] w (PSortPost w base l v) := by
  by_cases h0 : 0 < l.length
  · obtain ⟨g, cap, rfl, hb, hg, _⟩ := OwnM.cells h h0
    have eg : ∀ args w, (callFunc 46 args).run Tryz.prog w = .ok (.enter 46 args) w := enters_of Tryz.func46 (by kernel_rfl) rfl
    have hcon := AnyQ.slices_SortFunc Tryz.sortPk 5 Tryz.isAgg83 Tryz.sizeOf83 Pk.cs (fun _ => rfl) Pk.cs_one cfP swoP 46 #[] g 0 cap l.toArray w eg (fun m os dk hdk x y => ord_clo x y _) (h.holds h0) hg (by simp; omega)
    refine Calls.mono hcon ?_
    rintro e w' ⟨rfl, d, n, os, hp, hs, rfl⟩
    obtain ⟨p1, p2, p3⟩ := hp
    have hd : d.size = l.length := by simpa using p1
    obtain ⟨f1, f2⟩ := h.sorted h0 hd n os
    have hperm : d.toList.Perm l := by
      have p3 : (List.take l.length d.toList).Perm l := by simpa [hd] using p3
      rwa [List.take_of_length_le (by simp [hd])] at p3
    have hlen := hperm.length_eq
    rw [hlen] at f1
    refine ⟨rfl, d.toList, hperm, fun hne => ?_, f1, f2⟩
    have hne' : d.toList.Pairwise (fun p q => p ≠ q) := (hperm.pairwise_iff (fun a => fun e => a e.symm)).2 hne
    unfold OrdP
    rw [List.pairwise_iff_getElem] at hne' ⊢
    intro i j hi hj hij
    have hs' := hs i j (Nat.zero_le _) hij (by simp at hj; simpa [hd] using hj)
    simp only [Array.length_toList] at hi hj
    rw [getElem!_pos d j hj, getElem!_pos d i hi] at hs'
    unfold ltOf at hs'
    rw [decide_eq_false_iff_not] at hs'
    simp only [Array.getElem_toList]
    rcases cf_total d[i] d[j] with e | e | e
    · exact e
    · exact absurd (show d.toList[i] = d.toList[j] by simpa using e) (hne' i j (by simpa using hi) (by simpa using hj) hij)
    · exact absurd e hs'
  · have hnil : l = [] := List.eq_nil_of_length_eq_zero (by omega)
    subst hnil
    obtain ⟨A, c, rfl⟩ := OwnM.form h
    refine Calls.mono (AnyF.slices_SortFunc_none Tryz.sortPk A c (.func (.func 46) #[] #[]) w) ?_
    rintro e w' ⟨rfl, rfl⟩
    exact ⟨rfl, [], List.Perm.refl _, fun _ => List.Pairwise.nil, h, grown_refl _ _⟩
end Go.Proofs.YtldpcliahfiloaaGreat
