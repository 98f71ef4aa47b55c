/-
  Lists of entries; those that an order puts first. Conditions: sizes.
-/
import Derived.Test.YtoamigfjpcniaaaDeF
import Derived.Deep.WholeRow
import Derived.Great.BuildSlice
set_option linter.unusedVariables false
set_option linter.unusedSimpArgs false
namespace Go.Proofs.Ytoamigfjpcniaaa
open Go.RowKit Go.MapKept Go.Shelf
open Go.Lib hiding intOf

theorem En.cs_size (x : En) : x.cs.size = 31 := rfl
theorem PtOk.ones {w : World} {x : En} (h : PtOk w x.p) : ∀ u ∈ x.cs.toList, u.oneCell' = true := by
  have h1 := h.one1
  have h2 := h.one2
  have h3 := h.one3
  intro u hu
  unfold En.cs at hu
  simp only [List.mem_cons, List.not_mem_nil, or_false] at hu
  rcases hu with rfl | rfl | rfl | rfl | rfl | rfl | rfl | rfl | rfl | rfl | rfl | rfl | rfl | rfl | rfl | rfl | rfl | rfl | rfl | rfl | rfl | rfl | rfl | rfl | rfl | rfl | rfl | rfl | rfl | rfl | rfl <;> first | rfl | assumption
/-- entries' cells -/
def Es (xs : List En) : List Value := xs.flatMap fun x => x.cs.toList
theorem Es_length : ∀ xs : List En, (Es xs).length = xs.length * 31
  | [] => rfl
  | x :: xs => by
    have ih := Es_length xs
    unfold Es at ih ⊢
    rw [List.flatMap_cons, List.length_append, ih, Array.length_toList, En.cs_size, List.length_cons]
    omega
theorem Es_append (xs ys : List En) : Es (xs ++ ys) = Es xs ++ Es ys := List.flatMap_append
theorem Es_one (x : En) : Es [x] = x.cs.toList := by unfold Es; rw [List.flatMap_cons, List.flatMap_nil, List.append_nil]
theorem Es_at : ∀ (xs : List En) (i : Nat) (x : En), xs[i]? = some x → ∀ (j : Nat) u, x.cs.toList[j]? = some u → (Es xs)[i * 31 + j]? = some u
  | [], i, x, h, j, u, hu => by simp at h
  | y :: xs, 0, x, h, j, u, hu => by
    simp only [List.getElem?_cons_zero, Option.some.injEq] at h
    subst h
    unfold Es
    rw [List.flatMap_cons, List.getElem?_append_left (by have := (List.getElem?_eq_some_iff.1 hu).1; omega), Nat.zero_mul, Nat.zero_add]
    exact hu
  | y :: xs, i + 1, x, h, j, u, hu => by
    have ih := Es_at xs i x (by simpa using h) j u hu
    unfold Es at ih ⊢
    have hl : y.cs.toList.length = 31 := by rw [Array.length_toList, En.cs_size]
    rw [List.flatMap_cons, List.getElem?_append_right (by rw [hl]; omega), ← ih, hl]
    congr 1
    omega
/-- a slice of entries that is read -/
structure EsAt (w : World) (A : Option Addr) (c : Nat) (xs : List En) : Prop where
  rd : Rd w A 31 (xs.map fun x => x.cs.toList)
  len : xs.length ≤ c
  cap : c ≤ maxLen
  ok : ∀ x ∈ xs, PtOk w x.p
theorem EsAt.below {w w' : World} {A : Option Addr} {c : Nat} {xs : List En} {B : Nat} (h : EsAt w A c xs) (hb : Below B w w') (hB : w.heap.size ≤ B) : EsAt w' A c xs :=
  ⟨h.rd.below hb hB, h.len, h.cap, fun x hx => (h.ok x hx).below hb hB⟩
/-- the entry at i -/
theorem EsAt.at_ {w : World} {A : Option Addr} {c i : Nat} {xs : List En} {x : En} (h : EsAt w A c xs) (hi : xs[i]? = some x) :
    ∃ b off, A = some ⟨b, off, none⟩ ∧ b < w.heap.size ∧ w.rangeAt b (off + i * 31) x.cs.toList := by
  obtain ⟨b, off, hA, hb, hc⟩ := Rd.at_ (i := i) (cs := x.cs.toList) h.rd (by rw [List.getElem?_map, hi]; rfl)
  exact ⟨b, off, hA, hb, hc⟩
/-- entries that a call made -/
def EsOwn (w : World) (base : Nat) (v : Value) (xs : List En) : Prop := OwnM w base 79 31 v xs.length (Es xs)
theorem EsOwn.at_ {w : World} {base : Nat} {v : Value} {xs : List En} (h : EsOwn w base v xs) (hok : ∀ x ∈ xs, PtOk w x.p) : ∃ A c, v = .slice A xs.length c ∧ EsAt w A c xs := by
  rcases Nat.eq_zero_or_pos xs.length with h0 | h0
  · obtain ⟨A, c, hv⟩ := h.form
    obtain rfl : xs = [] := List.eq_nil_of_length_eq_zero h0
    rcases h.2 with ⟨h2, _⟩ | ⟨g, cap, cur, fr, h2, _, _, _, h4, h5, _⟩
    · exact ⟨none, 0, h2, fun hl => absurd hl (by simp), Nat.le_refl _, Nat.zero_le _, hok⟩
    · exact ⟨_, cap, h2, fun hl => absurd hl (by simp), h4, h5, hok⟩
  · obtain ⟨g, cap, hv, hb, hg, hn, hc, hcell, _⟩ := OwnM.cells h h0
    refine ⟨_, cap, hv, fun _ => ⟨g, 0, rfl, hg, fun i cs hi j u hu => ?_⟩, hn, hc, hok⟩
    rw [List.getElem?_map] at hi
    cases hx : xs[i]? with
    | none => rw [hx] at hi; cases hi
    | some x =>
      rw [hx] at hi
      simp only [Option.map_some, Option.some.injEq] at hi
      subst hi
      rw [Nat.zero_add]
      exact hcell _ _ (Es_at xs i x hx j u hu)
/-- the head of them -/
theorem EsOwn.head {w : World} {base : Nat} {v : Value} {y : En} {ys : List En} (h : EsOwn w base v (y :: ys)) : ∃ g c, v = .slice (some ⟨g, 0, none⟩) (ys.length + 1) c ∧ base ≤ g ∧ g < w.heap.size ∧ ys.length + 1 ≤ c ∧ c ≤ maxLen ∧ w.rangeAt g 0 y.cs.toList := by
  obtain ⟨g, cap, hv, hb, hg, hn, hc, hcell, _⟩ := OwnM.cells h (by simp)
  refine ⟨g, cap, hv, hb, hg, hn, hc, fun j u hu => ?_⟩
  rw [Nat.zero_add]
  have := hcell _ _ (Es_at (y :: ys) 0 y rfl j u hu)
  rwa [Nat.zero_mul, Nat.zero_add] at this
theorem Src.cells {w : World} {t2 e T : TypeId} {size b c : Nat} {cs : Array Value} (ht : Try.prog.underlying t2 = some (.slice e)) (h : CellsAt w b cs T) (hs : cs.size = size) (h1 : ∀ u ∈ cs.toList, u.oneCell' = true) :
    Src Try.prog w t2 size (.slice (some ⟨b, 0, none⟩) 1 c) 1 cs.toList :=
  Src.slice ht (by rw [Array.length_toList, hs, Nat.one_mul]) (fun j x hx => by
    rw [add_flat, h.c j]
    simpa using hx) h1
theorem load_range {w : World} {b off : Nat} {x : En} (h : w.rangeAt b off x.cs.toList) : (Instr.loadAt 79 (.pointer (some ⟨b, off, none⟩))).run Try.prog w = .ok x.v w := by
  obtain ⟨fs, hu⟩ := entry_under
  exact run_loadAt_mid w b off 79 x.cs.toList _ h hu rfl (by rw [entry_size]; rfl)
theorem yields_range {ops : Array Oper} {S : World → Prop} {o : Oper} {a : Act} (hw : Region.wanted o (yielded ops a.tmps) = true) (src : Operand) (ho : o.op = .load 79 src)
    (b off : Nat) (hx : a.eval src = .pointer (some ⟨b, off, none⟩)) (x : En) (hS : ∀ w, S w → w.rangeAt b off x.cs.toList) : YieldsIf Try.prog ops S o x.v a := by
  obtain ⟨fs, hu⟩ := entry_under
  exact yieldsIf_load_mid hw 79 src ho b off hx x.cs.toList _ hS hu rfl (by rw [entry_size]; rfl)
theorem rangeAt_below {w w' : World} {b off B : Nat} {cs : List Value} (h : w.rangeAt b off cs) (hb : Below B w w') (hB : b < B) : w'.rangeAt b off cs := fun j v hv => (hb.cell (p := ⟨b, _, none⟩) hB).trans (h j v hv)
theorem CellsAt.range {w : World} {b : Nat} {T : TypeId} {cs : Array Value} (h : CellsAt w b cs T) : w.rangeAt b 0 cs.toList := fun j v hv => by
  rw [Nat.zero_add, h.c j]
  simpa using hv

theorem info_small {P : Program} {T : TypeId} {n : Nat} (h : (P.info? T).map (fun i => (i.zero.map fun z => z.cells.size, i.size, decide (i.bytes ≤ 1000))) = some (some n, n, true)) : ∃ i z, P.info? T = some i ∧ i.zero = some z ∧ i.size = n ∧ z.cells.size = n ∧ i.bytes ≤ 1000 := by
  cases hq : P.info? T with
  | none => simp [hq] at h
  | some i =>
    simp only [hq, Option.map_some, Option.some.injEq, Prod.mk.injEq, decide_eq_true_eq] at h
    obtain ⟨h1, h2, h3⟩ := h
    cases hz : i.zero with
    | none => rw [hz] at h1; cases h1
    | some z =>
      rw [hz] at h1
      exact ⟨i, z, rfl, hz, h2, by simpa using h1, h3⟩
theorem infoEn : ∃ i z, Try.prog.info? 79 = some i ∧ i.zero = some z ∧ i.size = 31 ∧ z.cells.size = 31 ∧ i.bytes ≤ 1000 := info_small (by kernel_rfl)
section
variable {ops : Array Oper} {rest : List Oper} {op : Oper} {a : Act} {w : World} {Q : Exit → Act → World → Prop}
theorem wpList_store_new {P : Program} {T : TypeId} {Z cells : Array Value} (hgd : op.guard = none) (x y : Operand) (ho : op.op = .store T x y) (hx : a.eval x = .pointer (some ⟨w.heap.size, 0, none⟩)) (hy : a.eval y = .agg cells)
    (hi : (P.info? T).map (·.size) = some cells.size) (hZ : Z.size = cells.size) (h1 : cells.all (·.oneCell') = true) (h : wpList P ops Q rest (a.put op.dst undef) (w.alloc (.cells cells T))) : wpList P ops Q (op :: rest) a (w.alloc (.cells Z T)) :=
  wpList_plain hgd fun _ hK => by
    unfold Oper.wp execOp
    simp only [ho, hx, hy, run_storeAt_new (P := P) w T Z cells hi hZ h1, Sem.run_bind, Sem.run_pure, Result.andThen_ok]
    exact hK _ _ h
/-- a slice literal of whole structs -/
theorem wpList_build_rows {P : Program} {T2 e : TypeId} {n s : Nat} {parts : Array (Nat × Operand)} (hgd : op.guard = none) (ho : op.op = .buildSlice T2 n parts) (vs : List Value) (hv : (parts.map fun (i, x) => (i, a.eval x)).toList = (vs.zipIdx 0).map fun x => (x.2, x.1))
    (hn : vs.length = n) (h1 : ∀ v ∈ vs, v.cells.size = s) (ie : TypeInfo) (z : Value) (hu : P.underlying T2 = some (.slice e)) (hie : P.info? e = some ie) (hz : ie.zero = some z) (hsz : ie.size = s) (hs : 0 < s) (h0 : 0 < n) (hsm : n * s ≤ 2 ^ 24)
    (h : wpList P ops Q rest (a.put op.dst (.slice (some ⟨w.heap.size, 0, none⟩) n n)) (w.alloc (.cells (vs.flatMap fun v => v.cells.toList).toArray e))) : wpList P ops Q (op :: rest) a w := by
  subst hsz
  have hp := Nat.mul_pos h0 hs
  refine wpList_buildSlice hgd T2 e n parts ho _ ie z hu hie hz (by omega) (by omega) ?_ h
  rw [hv]
  exact Great.fill_whole hs vs _ h1 (by rw [hn]; simp)
/-- a slice literal of one entry -/
theorem wpList_build_entry (hgd : op.guard = none) (src : Operand) (ho : op.op = .buildSlice 76 1 #[(0, src)]) (x : En) (hx : a.eval src = .agg x.cs)
    (h : wpList Try.prog ops Q rest (a.put op.dst (.slice (some ⟨w.heap.size, 0, none⟩) 1 1)) (w.alloc (.cells x.cs 79))) : wpList Try.prog ops Q (op :: rest) a w := by
  obtain ⟨i0, z0, hi, hz0, hz1, hz2, hz3⟩ := infoEn
  refine wpList_build_rows hgd ho [.agg x.cs] (by simp [hx]) rfl (s := 31) (fun v hv => by simp only [List.mem_singleton] at hv; subst hv; rfl) i0 z0 Try.underlying76 hi hz0 hz1 (by decide) (by decide) (by decide) ?_
  have e : (([Value.agg x.cs].flatMap fun v => v.cells.toList).toArray : Array Value) = x.cs := by
    show (x.cs.toList ++ []).toArray = x.cs
    rw [List.append_nil, Array.toArray_toList]
  rw [e]
  exact h
/-- an entry is loaded -/
theorem wpList_load_entry (hgd : op.guard = none) (src : Operand) (ho : op.op = .load 79 src) (b off : Nat) (hx : a.eval src = .pointer (some ⟨b, off, none⟩)) (x : En) (hc : w.rangeAt b off x.cs.toList)
    (h : wpList Try.prog ops Q rest (a.put op.dst (.agg x.cs)) w) : wpList Try.prog ops Q (op :: rest) a w := by
  obtain ⟨fs, hu⟩ := entry_under
  exact wpList_load_mid hgd 79 src ho b off hx x.cs.toList _ hc hu rfl (by rw [entry_size]; rfl) h
/-- an entry is laid into a new box -/
theorem wpList_store_entry {Z : Array Value} (hgd : op.guard = none) (x y : Operand) (ho : op.op = .store 79 x y) (hx : a.eval x = .pointer (some ⟨w.heap.size, 0, none⟩)) (e : En) (hy : a.eval y = .agg e.cs)
    (hZ : Z.size = 31) (h1 : ∀ u ∈ e.cs.toList, u.oneCell' = true) (h : wpList Try.prog ops Q rest (a.put op.dst undef) (w.alloc (.cells e.cs 79))) : wpList Try.prog ops Q (op :: rest) a (w.alloc (.cells Z 79)) :=
  wpList_store_new hgd x y ho hx hy (by rw [entry_size]; rfl) hZ (by have := all_oneCell_toArray h1; rwa [Array.toArray_toList] at this) h
end

theorem EsOwn.nil (w : World) (base : Nat) : EsOwn w base (.slice none 0 0) [] := OwnM.nil _ _ _ _
theorem EsOwn.alloc {w : World} {base : Nat} {v : Value} {xs : List En} (h : EsOwn w base v xs) (o : Obj) : EsOwn (w.alloc o) base v xs := OwnM.alloc h o
theorem EsOwn.below {w w' : World} {base B : Nat} {v : Value} {xs : List En} (h : EsOwn w base v xs) (hb : Below B w w') (hB : w.heap.size ≤ B) : EsOwn w' base v xs := OwnM.below h hb hB
theorem EsOwn.lower {w : World} {base b : Nat} {v : Value} {xs : List En} (h : EsOwn w base v xs) (hb : b ≤ base) : EsOwn w b v xs := OwnM.lower h hb
/-- an entry is appended -/
theorem wpList_append_entry {ops : Array Oper} {rest : List Oper} {op : Oper} {a : Act} {W : World} {Q : Exit → Act → World → Prop} (hgd : op.guard = none) (s p : Operand)
    (ho : op.op = .call { callee := .builtin .append, args := #[s, p], argTypes := #[76, 76] }) (base : Nat) (v : Value) (ys : List En) (hs : a.eval s = v) (hown : Hid (EsOwn W base v ys))
    (x : En) (b : Nat) (hp : a.eval p = .slice (some ⟨b, 0, none⟩) 1 1) (hc : Hid (CellsAt W b x.cs 79)) (h1 : Hid (∀ u ∈ x.cs.toList, u.oneCell' = true)) (hl : ys.length ≤ 1000000) (hbase : base ≤ W.heap.size)
    (h : ∀ A' c' w', Hid (EsOwn w' base (.slice A' (ys.length + 1) c') (ys ++ [x])) → Hid (∀ B w0, Below B w0 W → B ≤ base → Below B w0 w') → Hid (W.grownBy w' v.ownBlock) → wpList Try.prog ops Q rest (a.put op.dst (.slice A' (ys.length + 1) c')) w') : wpList Try.prog ops Q (op :: rest) a W := by
  obtain ⟨i0, z0, hi, hz0, hz1, hz2, hz3⟩ := infoEn
  have hown := hown.out
  refine wpList_append_m hgd s p 76 76 ho base 79 i0 z0 31 i0.bytes Try.underlying76 hi hz0 hz1 rfl hz2 (by decide) v ys.length (Es ys) hs hown _ 1 (Es [x]) hp ?_ ?_ ?_ hbase ?_
  · rw [Es_one]
    exact Src.cells Try.underlying76 hc.out (En.cs_size x) h1.out
  · unfold maxLen
    omega
  · have h5 : (ys.length + 1) * i0.bytes ≤ 1000001 * 1000 := Nat.mul_le_mul (by omega) hz3
    omega
  · intro v' w' hv hg _
    obtain ⟨A', c', rfl⟩ := hv.form
    refine h A' c' w' ?_ (fun B w0 hb hB => hown.below_grown hg hb (Nat.le_trans hB hbase) hB) hg
    show OwnM _ _ _ _ _ _ _
    rw [Es_append, List.length_append]
    exact hv

/-- what least does with the next one -/
def stepL (c : En → En → Int) (out : List En) (x : En) : List En :=
  match out with
  | [] => [x]
  | y :: ys => if 0 < c x y then y :: ys else if c x y < 0 then [x] else y :: ys ++ [x]
def leastL (c : En → En → Int) (xs : List En) : List En := xs.foldl (stepL c) []
theorem leastL_take {c : En → En → Int} {xs : List En} {k : Nat} {x : En} (h : xs[k]? = some x) : leastL c (xs.take (k + 1)) = stepL c (leastL c (xs.take k)) x := by
  unfold leastL
  rw [List.take_add_one, h, Option.toList_some, List.foldl_append, List.foldl_cons, List.foldl_nil]
theorem stepL_sub {c : En → En → Int} {out : List En} {x z : En} (h : z ∈ stepL c out x) : z ∈ out ∨ z = x := by
  unfold stepL at h
  split at h
  · simp at h; exact .inr h
  · split at h
    · exact .inl h
    · split at h
      · simp at h; exact .inr h
      · simp at h ⊢
        rcases h with h | h | h
        · exact .inl (.inl h)
        · exact .inl (.inr h)
        · exact .inr h
theorem leastL_sub {c : En → En → Int} : ∀ {xs : List En} {z : En}, z ∈ leastL c xs → z ∈ xs := by
  have H : ∀ (xs out : List En) (z : En), z ∈ xs.foldl (stepL c) out → z ∈ out ∨ z ∈ xs := by
    intro xs
    induction xs with
    | nil => intro out z h; exact .inl h
    | cons x xs ih =>
      intro out z h
      rcases ih _ z h with h | h
      · rcases stepL_sub h with h | h
        · exact .inl h
        · exact .inr (by simp [h])
      · exact .inr (by simp [h])
  intro xs z h
  rcases H xs [] z h with h | h
  · cases h
  · exact h
theorem stepL_len {c : En → En → Int} {out : List En} {x : En} : (stepL c out x).length ≤ out.length + 1 := by
  unfold stepL
  split
  · simp
  · split
    · simp
    · split <;> simp
theorem leastL_len {c : En → En → Int} {xs : List En} : (leastL c xs).length ≤ xs.length := by
  have H : ∀ (xs out : List En), (xs.foldl (stepL c) out).length ≤ out.length + xs.length := by
    intro xs
    induction xs with
    | nil => intro out; simp
    | cons x xs ih =>
      intro out
      have h1 := ih (stepL c out x)
      have h2 := stepL_len (c := c) (out := out) (x := x)
      simp only [List.foldl_cons, List.length_cons]
      omega
  have := H xs []
  unfold leastL
  simpa using this
theorem stepL_ne {c : En → En → Int} {out : List En} {x : En} : stepL c out x ≠ [] := by
  unfold stepL
  split
  · simp
  · split
    · simp
    · split <;> simp
theorem leastL_ne {c : En → En → Int} {xs : List En} (h : xs ≠ []) : leastL c xs ≠ [] := by
  have H : ∀ (xs out : List En), out ≠ [] → xs.foldl (stepL c) out ≠ [] := by
    intro xs
    induction xs with
    | nil => intro out h; exact h
    | cons x xs ih => intro out _; exact ih _ stepL_ne
  cases xs with
  | nil => exact absurd rfl h
  | cons x xs => exact H xs _ stepL_ne
end Go.Proofs.Ytoamigfjpcniaaa
