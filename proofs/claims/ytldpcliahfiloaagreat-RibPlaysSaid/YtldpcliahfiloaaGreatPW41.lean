/-
  Several texts in one.
-/
import Derived.Test.YtldpcliahfiloaaGreatPW40
import Derived.Test.YtldpcliahfiloaaGreatPW34
set_option linter.unusedVariables false
set_option linter.unusedSimpArgs false
namespace Go.Proofs.YtldpcliahfiloaaGreat
open Go.RowKit Go.MapKept Go.Shelf
open Go.ChangeShapes Go.WideShapes Go.ChangeAt
open Go.Lib hiding intOf
open Go.Sort hiding Below

def paF (t : Td) : List Value := t.pa.toList
theorem paF_len (t : Td) : (paF t).length = 29 := rfl
theorem paF_one (t : Td) : ∀ u ∈ paF t, u.oneCell' = true := fun u hu => (Array.all_eq_true_iff_forall_mem.1 (path_ones t.k t.label t.a t.stale)) u (Array.mem_toList_iff.1 hu)
/-- a list of paths that is read -/
structure PhL (w : World) (A : Option Addr) (c : Nat) (L : List Td) : Prop where
  rd : Rd w A 29 (L.map paF)
  len : L.length ≤ c
  cap : c ≤ maxLen
  sh : (A = none ∧ c = 0) ∨ ∃ b off, A = some ⟨b, off, none⟩
  ok : ∀ t ∈ L, t.k.Ok ∧ t.label < 4294967296 ∧ AtrOk w t.a ∧ AtrSz t.a.c
theorem PhL.below {w w' : World} {A : Option Addr} {cap : Nat} {L : List Td} (h : PhL w A cap L) (hb : Below w.heap.size w w') : PhL w' A cap L :=
  ⟨h.rd.below hb (Nat.le_refl _), h.len, h.cap, h.sh, fun t ht => ⟨(h.ok t ht).1, (h.ok t ht).2.1, (h.ok t ht).2.2.1.below hb (Nat.le_refl _), (h.ok t ht).2.2.2⟩⟩
theorem PhL.nil (w : World) : PhL w none 0 [] := ⟨fun hl => absurd hl (by simp), Nat.le_refl _, Nat.zero_le _, .inl ⟨rfl, rfl⟩, fun t ht => by cases ht⟩
theorem Rd.keepX {w w' : World} {A : Option Addr} {C : Nat} {xs : List (List Value)} {X : Nat → Prop} (h : Rd w A C xs) (hg : GrownX X w w') (hX : ∀ i, X i → ∀ cs T fr, w.heap[i]? ≠ some (.cells cs T fr)) : Rd w' A C xs := fun hl => by
  obtain ⟨b, off, e, hlt, hc⟩ := h hl
  refine ⟨b, off, e, Nat.lt_of_lt_of_le hlt hg.size, fun i cs hi j u hu => ?_⟩
  have h1 := hc i cs hi j u hu
  rw [← h1]
  have h2 : w'.heap[b]? = w.heap[b]? := hg.block b hlt (fun hx => by
    unfold World.cell? at h1
    cases hb : w.heap[b]? with
    | none => simp [hb] at h1
    | some o =>
      cases o with
      | cells cs T fr => exact hX b hx cs T fr hb
      | _ => simp [hb] at h1)
  unfold World.cell?
  rw [h2]
theorem AtrOk.keepX {w w' : World} {a : Atr} {X : Nat → Prop} (h : AtrOk w a) (hg : GrownX X w w') (hX : ∀ i, X i → ∀ cs T fr, w.heap[i]? ≠ some (.cells cs T fr)) : AtrOk w' a :=
  { h with prd := h.prd.keepX hg hX, segs := fun s hs => { h.segs s hs with rd := (h.segs s hs).rd.keepX hg hX }, mrd := h.mrd.keepX hg hX, xrd := h.xrd.keepX hg hX, lrd := h.lrd.keepX hg hX, krd := h.krd.keepX hg hX }
theorem PhL.keepX {w w' : World} {A : Option Addr} {cap : Nat} {L : List Td} {X : Nat → Prop} (h : PhL w A cap L) (hg : GrownX X w w') (hX : ∀ i, X i → ∀ cs T fr, w.heap[i]? ≠ some (.cells cs T fr)) : PhL w' A cap L :=
  ⟨h.rd.keepX hg hX, h.len, h.cap, h.sh, fun t ht => ⟨(h.ok t ht).1, (h.ok t ht).2.1, (h.ok t ht).2.2.1.keepX hg hX, (h.ok t ht).2.2.2⟩⟩
/-- a row of it -/
theorem PhL.row {w : World} {A : Option Addr} {cap i : Nat} {L : List Td} {t : Td} (h : PhL w A cap L) (hi : L[i]? = some t) :
    ∃ b off, A = some ⟨b, off, none⟩ ∧ ∀ W, Below w.heap.size w W → W.rangeAt b (off + i * 29) t.pa.toList := by
  obtain ⟨b, off, e, hlt, hc⟩ := Rd.at_ h.rd (i := i) (cs := paF t) (by rw [List.getElem?_map, hi]; rfl)
  exact ⟨b, off, e, fun W hW j u hu => (hW.cell (p := ⟨b, _, none⟩) hlt).trans (hc j u hu)⟩
theorem pa_at {W : World} {b o : Nat} {t : Td} (h : W.rangeAt b o t.pa.toList) : W.cell? ⟨b, o, none⟩ = some (.int .i64 t.k.fam) ∧ W.cell? ⟨b, o + 1, none⟩ = some (.int .u64 t.k.rd) ∧ W.cell? ⟨b, o + 2, none⟩ = some (.string t.k.addr) ∧ W.cell? ⟨b, o + 3, none⟩ = some (.int .i64 t.k.len) ∧ W.cell? ⟨b, o + 4, none⟩ = some (.int .u32 (t.k.id : Nat)) ∧ W.cell? ⟨b, o + 5, none⟩ = some (.int .u32 (t.label : Nat)) ∧ W.cell? ⟨b, o + 28, none⟩ = some (.bool t.stale) :=
  ⟨h 0 _ rfl, h 1 _ rfl, h 2 _ rfl, h 3 _ rfl, h 4 _ rfl, h 5 _ rfl, h 28 _ rfl⟩
theorem ph_rd_take {w : World} {A : Option Addr} {L : List Td} (h : Rd w A 29 (L.map paF)) (k : Nat) : Rd w A 29 ((L.take k).map paF) := by
  intro hl
  rw [List.length_map, List.length_take] at hl
  obtain ⟨b, off, hA, hb, hc⟩ := h (by rw [List.length_map]; omega)
  refine ⟨b, off, hA, hb, fun i cs hi j u hu => hc i cs ?_ j u hu⟩
  rw [List.getElem?_map] at hi ⊢
  by_cases hin : i < k
  · rwa [List.getElem?_take_of_lt hin] at hi
  · rw [List.getElem?_take_eq_none (by omega)] at hi
    cases hi
theorem ph_rd_drop {w : World} {b off : Nat} {L : List Td} (h : Rd w (some ⟨b, off, none⟩) 29 (L.map paF)) (k : Nat) : Rd w (some ⟨b, off + k * 29, none⟩) 29 ((L.drop k).map paF) := by
  intro hl
  rw [List.length_map, List.length_drop] at hl
  obtain ⟨b2, off2, hA, hb, hc⟩ := h (by rw [List.length_map]; omega)
  simp only [Option.some.injEq, Addr.mk.injEq, and_true] at hA
  obtain ⟨rfl, rfl⟩ := hA
  refine ⟨b, off + k * 29, rfl, hb, fun i cs hi j u hu => ?_⟩
  rw [List.getElem?_map, List.getElem?_drop] at hi
  have h2 := hc (k + i) cs (by rw [List.getElem?_map]; exact hi) j u hu
  rw [show off + k * 29 + i * 29 + j = off + (k + i) * 29 + j by rw [Nat.add_mul]; omega]
  exact h2
theorem ph_upto {w : World} {A : Option Addr} {c : Nat} {L : List Td} (h : PhL w A c L) (i : Nat) (hi : i ≤ L.length) : (∀ W, (Instr.sliceAt 25 (.slice A L.length c) none (some (.int .i64 i)) none).run Tryz.prog W = .ok (.slice A i c) W) ∧ Rd w A 29 ((L.take i).map paF) ∧ (L.take i).length = i := by
  refine ⟨fun W => ?_, ph_rd_take h.rd i, by rw [List.length_take]; omega⟩
  have h1 : i ≤ c := Nat.le_trans hi h.len
  have h2 := h.cap
  rcases h.sh with ⟨rfl, rfl⟩ | ⟨b, off, rfl⟩
  · obtain rfl : i = 0 := by omega
    simp [go_sem]
  · simp [go_sem, h1]
theorem ph_from {w : World} {A : Option Addr} {c : Nat} {L : List Td} (h : PhL w A c L) (i : Nat) (hi : i ≤ L.length) : ∃ A' c', (∀ W, (Instr.sliceAt 25 (.slice A L.length c) (some (.int .i64 i)) none none).run Tryz.prog W = .ok (.slice A' (L.drop i).length c') W) ∧ Rd w A' 29 ((L.drop i).map paF) := by
  have h1 := h.len
  have h2 := h.cap
  rw [List.length_drop]
  rcases h.sh with ⟨rfl, rfl⟩ | ⟨b, off, rfl⟩
  · have hl : L = [] := List.eq_nil_of_length_eq_zero (by omega)
    subst hl
    have h0 : i = 0 := by simpa using hi
    subst h0
    exact ⟨none, 0, fun W => by simp [go_sem], fun hl => absurd hl (by simp)⟩
  · by_cases hc : c = i
    · subst hc
      have he : L.length = c := by omega
      refine ⟨some ⟨b, off, none⟩, 0, fun W => ?_, fun hl => absurd hl (by simp; omega)⟩
      simp [go_sem, he]
    · have h3 : i ≤ c := Nat.le_trans hi h1
      refine ⟨some ⟨b, off + i * 29, none⟩, c - i, fun W => ?_, ph_rd_drop h.rd i⟩
      simp [go_sem, hi, h1, h3, hc, Tryz.sizeOf64]
section
variable {ops : Array Oper} {rest : List Oper} {op : Oper} {a : Act} {W : World} {Q : Exit → Act → World → Prop}
/-- a whole path is loaded -/
theorem wpList_load_ph (hgd : op.guard = none) (src : Operand) (ho : op.op = .load 64 src) (b o : Nat) (hx : a.eval src = .pointer (some ⟨b, o, none⟩)) (t : Td) (hr : W.rangeAt b o t.pa.toList)
    (h : wpList Tryz.prog ops Q rest (a.put op.dst (.agg t.pa)) W) : wpList Tryz.prog ops Q (op :: rest) a W := by
  obtain ⟨fs, hu⟩ := path_under
  exact wpList_load_mid hgd 64 src ho b o hx t.pa.toList _ hr hu rfl (by rw [path_size]; rfl) h
/-- a list of paths grows -/
theorem wpList_app_ph (hgd : op.guard = none) (s p : Operand) (ho : op.op = .call { callee := .builtin .append, args := #[s, p], argTypes := #[25, 25] }) (base : Nat) (A0 : Option Addr) (n c0 : Nat) (O : List Td) (hn : O.length = n) (hs : a.eval s = .slice A0 n c0) (hown : OwnL W base 64 29 paF (.slice A0 n c0) O)
    (X : List Td) (A : Option Addr) (m c : Nat) (hm : X.length = m) (hp : a.eval p = .slice A m c) (hr : Rd W A 29 (X.map paF)) (q : Nat) (hq : n + m = q) (hl : q ≤ 1000) (hb : base ≤ W.heap.size)
    (h : ∀ A' c' w', Hid (OwnL w' base 64 29 paF (.slice A' q c') (O ++ X)) → Hid (Below base W w') → wpList Tryz.prog ops Q rest (a.put op.dst (.slice A' q c')) w') : wpList Tryz.prog ops Q (op :: rest) a W := by
  subst hn hm hq
  obtain ⟨i0, z0, hi0, hz0, hz1, hz2, hz3⟩ := infoPh
  refine wpList_append_m hgd s p 25 25 ho base 64 i0 z0 29 i0.bytes Tryz.underlying25 hi0 hz0 hz1 rfl hz2 (by decide) _ O.length (O.flatMap paF) hs hown _ X.length _ hp (Rd.src Tryz.underlying25 (by decide) paF_len paF_one hr) (by unfold maxLen; omega) (Nat.le_trans (Nat.mul_le_mul hl hz3) (by decide)) hb ?_
  intro v' w5 hown5 hgr hat
  have hBB : Below base W w5 := (Below.refl base W).grown hgr hb (fun q hq => (OwnM.lt hown q hq).1)
  obtain ⟨A6, c6, rfl⟩ := hown5.form
  have h2 : OwnL w5 base 64 29 paF (.slice A6 (O.length + X.length) c6) (O ++ X) := by
    show OwnM _ _ _ _ _ _ _
    rw [List.length_append, List.flatMap_append]
    exact hown5
  exact h A6 c6 w5 h2 hBB
/-- one path, as a slice literal -/
theorem wpList_build_ph (hgd : op.guard = none) (x : Operand) (ho : op.op = .buildSlice 25 1 #[(0, x)]) (t : Td) (hx : a.eval x = .agg t.pa)
    (h : ∀ g w', Hid (g = W.heap.size) → Hid (w' = W.alloc (.cells t.pa 64)) → wpList Tryz.prog ops Q rest (a.put op.dst (.slice (some ⟨g, 0, none⟩) 1 1)) w') : wpList Tryz.prog ops Q (op :: rest) a W :=
  wpList_plain hgd fun _ hK => wp_build_path1 x ho t hx (hK _ _ (h _ _ rfl rfl))
end
/-- one path, as a list -/
theorem ph_one (w : World) (t : Td) : Rd (w.alloc (.cells t.pa 64)) (some ⟨w.heap.size, 0, none⟩) 29 ([t].map paF) := fun _ => by
  refine ⟨w.heap.size, 0, rfl, by rw [World.size_alloc]; omega, fun i cs hi j u hu => ?_⟩
  have h0 : i = 0 := by
    have := (List.getElem?_eq_some_iff.1 hi).1
    simp at this
    exact this
  subst h0
  simp only [List.map_cons, List.getElem?_cons_zero, Option.some.injEq] at hi
  subst hi
  simp only [Nat.zero_mul, Nat.zero_add]
  rw [(CellsAt.new w t.pa 64).c j]
  rw [← Array.getElem?_toList]
  exact hu
/-- what was laid is read -/
theorem ph_of {w : World} {base : Nat} {A : Option Addr} {n c : Nat} {L : List Td} (h : OwnL w base 64 29 paF (.slice A n c) L) (hok : ∀ t ∈ L, t.k.Ok ∧ t.label < 4294967296 ∧ AtrOk w t.a ∧ AtrSz t.a.c) : PhL w A c L ∧ n = L.length := by
  obtain ⟨A2, c2, hv, hr, hl, hc⟩ := OwnL.rd paF_len h
  injection hv with e1 e2 e3
  subst e1 e2 e3
  refine ⟨⟨hr, hl, hc, ?_, hok⟩, rfl⟩
  rcases h.2 with ⟨h2, _⟩ | ⟨q, cap, cur, fr, h2, _⟩
  · injection h2 with e1 e2 e3
    exact .inl ⟨e1, e3⟩
  · injection h2 with e1 e2 e3
    exact .inr ⟨_, _, e1⟩
/-- a list that a call answers: the old one, or a new one of its own -/
def NewL (w w' : World) (A : Option Addr) (c : Nat) (L : List Td) (A' : Option Addr) (c' : Nat) (L' : List Td) : Prop :=
  (A' = A ∧ c' = c ∧ L' = L) ∨ (OwnL w' w.heap.size 64 29 paF (.slice A' L'.length c') L' ∧ ∀ t ∈ L', (∃ u ∈ L, u.a = t.a ∧ u.k = t.k ∧ u.label = t.label) ∨ (t.k.Ok ∧ t.label < 4294967296 ∧ AtO w' w.heap.size t.a ∧ AtrSz t.a.c))
theorem NewL.ph {w w' W : World} {A : Option Addr} {c : Nat} {L : List Td} {A' : Option Addr} {c' : Nat} {L' : List Td} (h : NewL w w' A c L A' c' L') (hW : PhL W A c L) (hk : ∀ i, w.heap.size ≤ i → i < w'.heap.size → W.heap[i]? = w'.heap[i]?) : PhL W A' c' L' := by
  rcases h with ⟨rfl, rfl, rfl⟩ | ⟨h1, h2⟩
  · exact hW
  · refine (ph_of (OwnL.keep h1 hk) (fun t ht => ?_)).1
    rcases h2 t ht with ⟨u, hu, e1, e2, e3⟩ | ⟨e1, e2, e3, e4⟩
    · rw [← e1, ← e2, ← e3]
      exact hW.ok u hu
    · exact ⟨e1, e2, (e3.keep hk).ok, e4⟩
end Go.Proofs.YtldpcliahfiloaaGreat
