/-
  Those that can be taken: open walked. Conditions: sizes.
-/
import Derived.Test.YtoamigfjpcniaaaDeL
set_option linter.unusedVariables false
set_option linter.unusedSimpArgs false
namespace Go.Proofs.Ytoamigfjpcniaaa
open Go.RowKit Go.MapKept Go.Shelf
open Go.Lib hiding intOf

/-- paths that are read -/
structure PsAt (w : World) (A : Option Addr) (c : Nat) (ps : List Pt) : Prop where
  rd : Rd w A 29 (ps.map fun p => p.cs.toList)
  len : ps.length ≤ c
  cap : c ≤ maxLen
  ok : ∀ p ∈ ps, PtOk w p
theorem PsAt.below {w w' : World} {A : Option Addr} {c : Nat} {ps : List Pt} {B : Nat} (h : PsAt w A c ps) (hb : Below B w w') (hB : w.heap.size ≤ B) : PsAt w' A c ps :=
  ⟨h.rd.below hb hB, h.len, h.cap, fun x hx => (h.ok x hx).below hb hB⟩
theorem PsAt.at_ {w : World} {A : Option Addr} {c i : Nat} {ps : List Pt} {p : Pt} (h : PsAt w A c ps) (hi : ps[i]? = some p) :
    ∃ b off, A = some ⟨b, off, none⟩ ∧ b < w.heap.size ∧ w.rangeAt b (off + i * 29) p.cs.toList := by
  obtain ⟨b, off, hA, hb, hc⟩ := Rd.at_ (i := i) (cs := p.cs.toList) h.rd (by rw [List.getElem?_map, hi]; rfl)
  exact ⟨b, off, hA, hb, hc⟩
theorem Pt.cs_size (p : Pt) : p.cs.size = 29 := rfl
theorem Pt.v_cs (p : Pt) : p.v = .agg p.cs := rfl
theorem PtOk.pones {w : World} {p : Pt} (h : PtOk w p) : ∀ u ∈ p.cs.toList, u.oneCell' = true := fun u hu => PtOk.ones (x := ⟨p, 0, 0⟩) h u (by rw [path_in]; exact List.mem_append_left _ hu)
theorem infoPt : ∃ i z, Try.prog.info? 38 = some i ∧ i.zero = some z ∧ i.size = 29 ∧ z.cells.size = 29 ∧ i.bytes ≤ 1000 := info_small (by kernel_rfl)
theorem En.cs_at (x : En) (j : Nat) (h : j < 29) : x.cs[j]? = x.p.cs[j]? := by
  rw [← Array.getElem?_toList, path_in, List.getElem?_append_left (by rw [Array.length_toList, Pt.cs_size]; exact h), Array.getElem?_toList]
section
variable {ops : Array Oper} {rest : List Oper} {op : Oper} {a : Act} {w : World} {Q : Exit → Act → World → Prop}
/-- a path is loaded -/
theorem wpList_load_path' (hgd : op.guard = none) (src : Operand) (ho : op.op = .load 38 src) (b off : Nat) (hx : a.eval src = .pointer (some ⟨b, off, none⟩)) (p : Pt) (hc : w.rangeAt b off p.cs.toList)
    (h : wpList Try.prog ops Q rest (a.put op.dst (.agg p.cs)) w) : wpList Try.prog ops Q (op :: rest) a w := wpList_load_path hgd src ho b off hx p hc h
/-- a path is laid into a new box -/
theorem wpList_store_path {Z : Array Value} (hgd : op.guard = none) (x y : Operand) (ho : op.op = .store 38 x y) (hx : a.eval x = .pointer (some ⟨w.heap.size, 0, none⟩)) (p : Pt) (hy : a.eval y = .agg p.cs)
    (hZ : Z.size = 29) (h1 : ∀ u ∈ p.cs.toList, u.oneCell' = true) (h : wpList Try.prog ops Q rest (a.put op.dst undef) (w.alloc (.cells p.cs 38))) : wpList Try.prog ops Q (op :: rest) a (w.alloc (.cells Z 38)) :=
  wpList_store_new hgd x y ho hx hy (by rw [path_size]; rfl) hZ (by have := all_oneCell_toArray h1; rwa [Array.toArray_toList] at this) h
/-- an entry is laid into a new box, its number said -/
theorem wpList_store_entry_n {Z : Array Value} (n : Nat) (hn : w.heap.size = n) (hgd : op.guard = none) (x y : Operand) (ho : op.op = .store 79 x y) (hx : a.eval x = .pointer (some ⟨n, 0, none⟩)) (e : En) (hy : a.eval y = .agg e.cs)
    (hZ : Z.size = 31) (h1 : ∀ u ∈ e.cs.toList, u.oneCell' = true) (h : wpList Try.prog ops Q rest (a.put op.dst undef) (w.alloc (.cells e.cs 79))) : wpList Try.prog ops Q (op :: rest) a (w.alloc (.cells Z 79)) := by
  subst hn
  exact wpList_store_entry hgd x y ho hx e hy hZ h1 h
theorem built_entry (p : Pt) (i : Nat) : Try.prog.built 79 [(0, .agg p.cs), (1, .int .i64 i), (2, .int .i64 0)] = some (En.cs ⟨p, i, 0⟩) := by kernel_rfl
/-- an entry is built of a path -/
theorem wpList_make_entry (hgd : op.guard = none) (s0 s1 s2 : Operand) (ho : op.op = .build 79 #[(0, s0), (1, s1), (2, s2)]) (p : Pt) (i : Nat) (h0 : a.eval s0 = .agg p.cs) (h1 : a.eval s1 = .int .i64 i) (h2 : a.eval s2 = .int .i64 0)
    (h : wpList Try.prog ops Q rest (a.put op.dst (.agg (En.cs ⟨p, i, 0⟩))) w) : wpList Try.prog ops Q (op :: rest) a w := by
  refine wpList_buildTo hgd 79 #[(0, s0), (1, s1), (2, s2)] ho op.dst rfl (En.cs ⟨p, i, 0⟩) ?_ h
  have e : (#[(0, s0), (1, s1), (2, s2)].map fun (x : Nat × Operand) => (x.1, a.eval x.2)).toList = [(0, .agg p.cs), (1, .int .i64 i), (2, .int .i64 0)] := by simp [h0, h1, h2]
  exact (congrArg _ e).trans (built_entry p i)
end

/-- what open makes of paths -/
def openL (f : Pt → Option Int) : Nat → List Pt → List En
  | _, [] => []
  | i, p :: r => match f p with
    | none => openL f (i + 1) r
    | some c => ⟨p, i, c⟩ :: openL f (i + 1) r
def oneL (f : Pt → Option Int) (i : Nat) (p : Pt) : List En := match f p with
  | none => []
  | some c => [⟨p, i, c⟩]
theorem openL_snoc (f : Pt → Option Int) : ∀ (l : List Pt) (i : Nat) (p : Pt), openL f i (l ++ [p]) = openL f i l ++ oneL f (i + l.length) p
  | [], i, p => by
    show openL f i [p] = [] ++ oneL f (i + 0) p
    unfold openL oneL
    cases f p <;> rfl
  | q :: l, i, p => by
    have ih := openL_snoc f l (i + 1) p
    have e : i + 1 + l.length = i + (q :: l).length := by rw [List.length_cons]; omega
    rw [e] at ih
    show openL f i (q :: (l ++ [p])) = _
    unfold openL
    cases f q <;> simp [ih]
theorem openL_take {f : Pt → Option Int} {ps : List Pt} {k : Nat} {p : Pt} (h : ps[k]? = some p) : openL f 0 (ps.take (k + 1)) = openL f 0 (ps.take k) ++ oneL f k p := by
  rw [List.take_add_one, h, Option.toList_some, openL_snoc, List.length_take, Nat.min_eq_left (by have := (List.getElem?_eq_some_iff.1 h).1; omega), Nat.zero_add]
theorem openL_mem {f : Pt → Option Int} : ∀ {l : List Pt} {i : Nat} {e : En}, e ∈ openL f i l → i ≤ e.at_ ∧ l[e.at_ - i]? = some e.p ∧ f e.p = some e.cost
  | [], i, e, h => by cases h
  | p :: l, i, e, h => by
    unfold openL at h
    have rec_ : e ∈ openL f (i + 1) l → i ≤ e.at_ ∧ (p :: l)[e.at_ - i]? = some e.p ∧ f e.p = some e.cost := fun h => by
      obtain ⟨h1, h2, h3⟩ := openL_mem h
      refine ⟨by omega, ?_, h3⟩
      rw [show e.at_ - i = (e.at_ - (i + 1)) + 1 by omega, List.getElem?_cons_succ]
      exact h2
    cases hf : f p with
    | none => rw [hf] at h; exact rec_ h
    | some c =>
      rw [hf] at h
      rcases List.mem_cons.1 h with rfl | h
      · exact ⟨Nat.le_refl _, by simp, hf⟩
      · exact rec_ h
theorem openL_len (f : Pt → Option Int) : ∀ (l : List Pt) (i : Nat), (openL f i l).length ≤ l.length
  | [], i => Nat.le_refl _
  | p :: l, i => by
    have ih := openL_len f l (i + 1)
    unfold openL
    cases f p with
    | none => simp only [List.length_cons]; omega
    | some c => simp only [List.length_cons]; omega
theorem openL_ok {w : World} {f : Pt → Option Int} {ps : List Pt} (h : ∀ p ∈ ps, PtOk w p) : ∀ e ∈ openL f 0 ps, PtOk w e.p := fun e he => h _ (List.mem_of_getElem? (openL_mem he).2.1)
theorem neq_nil (w : World) : (binOp .neq 41 .nilFunc .nilFunc).run Try.prog w = .ok (.bool false) w := by kernel_rfl
theorem neq_func (F : Nat) (C : Array Value) (w : World) : (binOp .neq 41 (.func (.func F) #[] C) .nilFunc).run Try.prog w = .ok (.bool true) w := by kernel_rfl
/-- a next hop's cost, as a function answers -/
def costV (o : Option Int) : Value := match o with
  | none => .tuple #[.int .i64 0, .bool false]
  | some n => .tuple #[.int .i64 n, .bool true]
/-- a cost function -/
def CostOk (w : World) (F : Nat) (C : Array Value) (cf : ByteArray → Option Int) : Prop := Enters F ∧ ∀ (w' : World) (s : ByteArray), Below w.heap.size w w' →
  Calls Try.prog F (#[.string s] ++ C) w' fun e w'' => e = .returned (costV (cf s)) ∧ Below w'.heap.size w' w''
theorem CostOk.below {w w1 : World} {F : Nat} {C : Array Value} {cf : ByteArray → Option Int} (h : CostOk w F C cf) (hb : Below w.heap.size w w1) : CostOk w1 F C cf :=
  ⟨h.1, fun w' s h1 => h.2 w' s (hb.trans (h1.mono hb.size))⟩
def costP (cf : ByteArray → Option Int) (p : Pt) : Option Int := if p.kind = 1 then some 0 else cf p.next
def freeP (p : Pt) : Option Int := some 0
theorem cell_of_at {w : World} {b : Nat} {x : En} (h : CellsAt w b x.cs 79) : w.cell? ⟨b, 30, none⟩ = some (.int .i64 x.cost) ∧ w.frozen? ⟨b, 30, none⟩ = false := by
  refine ⟨(h.c 30).trans rfl, ?_⟩
  have h2 : w.heap[b]? = some (.cells x.cs 79 (0, 0)) := h
  simp only [World.frozen?, h2]
  rfl
theorem cost_laid {w : World} {b n : Nat} {p : Pt} {c d : Int} (h : CellsAt w b (En.cs ⟨p, n, c⟩) 79) : CellsAt (w.setCell ⟨b, 30, none⟩ (.int .i64 d)) b (En.cs ⟨p, n, d⟩) 79 := by
  have h2 : w.heap[b]? = some (.cells (En.cs ⟨p, n, c⟩) 79 (0, 0)) := h
  rw [setCell_eq_setRow w b 30 _ _ _ _ h2]
  exact setRow_heap w b _ _ _ _ h2
theorem below_setCell {B : Nat} {w0 w : World} {q : Addr} (h : Below B w0 w) (hq : B ≤ q.block) (u : Value) : Below B w0 (w.setCell q u) :=
  h.trans ⟨rfl, rfl, rfl, by simp [World.setCell], fun i hi => Below.heap_setCell w q u i (by omega)⟩

set_option maxRecDepth 100000 in
set_option maxHeartbeats 4000000 in
theorem open_free (A : Option Addr) (cap : Nat) (ps : List Pt) (w : World) (h : PsAt w A cap ps) (hps : ps.length ≤ 1000000) :
    Calls Try.prog 33 #[.slice A ps.length cap, .nilFunc] w fun e w' => ∃ v, e = .returned v ∧ EsOwn w' w.heap.size v (openL freeP 0 ps) ∧ Below w.heap.size w w' := by
  have HE := Lib.hid h
  clear h
  go_enter Try.func33, Try.ntmps33
  go_wp2_with fail
  go_loopw [5, 12] (fun o i wr => ∃ k : Nat, k ≤ ps.length ∧ i = .int .i64 k ∧ Hid (EsOwn wr w.heap.size o (openL freeP 0 (ps.take k))) ∧ Hid (Below w.heap.size w wr)) (fun _ i _ => ps.length + 1 - (intOf i).toNat)
  case atStart => exact ⟨0, by omega, rfl, EsOwn.nil _ _, Below.refl _ _⟩
  case round =>
    obtain ⟨k, hk, rfl, HO, HB⟩ := hrel
    by_cases hlt : k < ps.length
    · obtain ⟨p, hp⟩ : ∃ p, ps[k]? = some p := ⟨ps[k], List.getElem?_eq_getElem hlt⟩
      have HT := Lib.hid (openL_take (f := freeP) hp)
      have hol : (openL freeP 0 (ps.take k)).length ≤ k := Nat.le_trans (openL_len _ _ _) (by rw [List.length_take]; omega)
      generalize openL freeP 0 (ps.take k) = ys at HO HT hol
      obtain ⟨b, off, rfl, hb, hr⟩ := PsAt.at_ (HE.out.below HB.out (Nat.le_refl _)) hp
      have hok := HE.out.ok p (List.mem_of_getElem? hp)
      have HOK := Lib.hid hok
      have HP1 := Lib.hid (PtOk.pones hok)
      have HE1 : Hid (∀ (n : Nat) (c : Int), ∀ u ∈ (En.cs ⟨p, n, c⟩).toList, u.oneCell' = true) := fun n c => PtOk.ones (x := ⟨p, n, c⟩) hok
      have HR := Lib.hid hr
      have hws := HB.out.size
      clear hr hok hp
      obtain ⟨A2, c2, rfl⟩ := OwnM.form HO.out
      have HC1 : Hid (CellsAt (wr.alloc (.cells p.cs 38)) wr.heap.size p.cs 38) := CellsAt.new _ _ _
      have HC2 : Hid (CellsAt ((wr.alloc (.cells p.cs 38)).alloc (.cells (En.cs ⟨p, k, 0⟩) 79)) wr.heap.size p.cs 38) := HC1.out.alloc _
      have HC3 : Hid (CellsAt ((wr.alloc (.cells p.cs 38)).alloc (.cells (En.cs ⟨p, k, 0⟩) 79)) (wr.heap.size + 1) (En.cs ⟨p, k, 0⟩) 79) := by
        have h := CellsAt.new (wr.alloc (.cells p.cs 38)) (En.cs ⟨p, k, 0⟩) 79
        rwa [show (wr.alloc (.cells p.cs 38)).heap.size = wr.heap.size + 1 by simp] at h
      have HB3 : Hid (Below w.heap.size w ((wr.alloc (.cells p.cs 38)).alloc (.cells (En.cs ⟨p, k, 0⟩) 79))) := (HB.out.alloc hws _).alloc (by simp; omega) _
      have HO3 : Hid (EsOwn ((wr.alloc (.cells p.cs 38)).alloc (.cells (En.cs ⟨p, k, 0⟩) 79)) w.heap.size (.slice A2 ys.length c2) ys) := (HO.out.alloc _).alloc _
      have hle : ys.length ≤ 1000000 := by omega
      have HLT := Lib.hid (fun q (hq : (Value.slice A2 ys.length c2).ownBlock = some q) => (HO.out.lt q hq).2)
      have q0 := neq_nil
      have HONE : Hid (oneL freeP k p = [⟨p, k, 0⟩]) := rfl
      have HC9 : Hid (CellsAt (((wr.alloc (.cells p.cs 38)).alloc (.cells (En.cs ⟨p, k, 0⟩) 79)).alloc (.cells (En.cs ⟨p, k, 0⟩) 79)) ((wr.alloc (.cells p.cs 38)).alloc (.cells (En.cs ⟨p, k, 0⟩) 79)).heap.size (En.cs ⟨p, k, 0⟩) 79) := CellsAt.new _ _ _
      have HBS : Hid (w.heap.size ≤ (((wr.alloc (.cells p.cs 38)).alloc (.cells (En.cs ⟨p, k, 0⟩) 79)).alloc (.cells (En.cs ⟨p, k, 0⟩) 79)).heap.size) := by
        show _ ≤ _
        simp
        omega
      go_wp2_with (with_reducible show wpList _ _ _ (_ :: _) _ _; first | refine wpList_load_path' rfl (.tmp 15) rfl b (off + k * 29) rfl p HR.out ?_ | refine wpList_store_path rfl (.tmp 7) (.tmp 16) rfl rfl p rfl rfl HP1.out ?_ | refine wpList_load_path' rfl (.tmp 7) rfl wr.heap.size 0 rfl p HC1.out.range ?_ | refine wpList_make_entry rfl (.tmp 17) (.tmp 18) _ rfl p k rfl rfl rfl ?_ | refine wpList_store_entry_n (wr.heap.size + 1) (by simp) rfl (.tmp 8) (.tmp 19) rfl rfl ⟨p, k, 0⟩ rfl rfl (HE1.out k 0) ?_ | refine wpList_load_entry rfl (.tmp 8) rfl (wr.heap.size + 1) 0 rfl ⟨p, k, 0⟩ HC3.out.range ?_ | refine wpList_build_entry rfl (.tmp 39) rfl ⟨p, k, 0⟩ rfl ?_ | refine wpList_append_entry rfl (.tmp 38) (.tmp 40) rfl w.heap.size (.slice A2 ys.length c2) ys rfl (Lib.hid (EsOwn.alloc HO3.out _)) ⟨p, k, 0⟩ (((wr.alloc (.cells p.cs 38)).alloc (.cells (En.cs ⟨p, k, 0⟩) 79))).heap.size rfl HC9 (Lib.hid (HE1.out _ _)) hle HBS.out ?_)
      intro A3 c3 w3 HOWN HBG HGR
      go_wp2_with fail
      exact ⟨⟨k + 1, by omega, by go_num, by rw [HT.out, HONE.out]; exact HOWN.out, HBG.out _ _ (HB3.out.alloc (by simp; omega) _) (Nat.le_refl _)⟩, by simp [intOf]; omega⟩
    · obtain rfl : k = ps.length := by omega
      rw [List.take_length] at HO
      obtain ⟨A2, c2, rfl⟩ := OwnM.form HO.out
      go_wp2_with fail
      go_ret
      exact ⟨_, rfl, HO.out, HB.out⟩

set_option maxRecDepth 100000 in
set_option maxHeartbeats 4000000 in
theorem open_cost (A : Option Addr) (cap : Nat) (ps : List Pt) (F : Nat) (C : Array Value) (cf : ByteArray → Option Int) (w : World) (h : PsAt w A cap ps) (hF : CostOk w F C cf) (hps : ps.length ≤ 1000000) :
    Calls Try.prog 33 #[.slice A ps.length cap, .func (.func F) #[] C] w fun e w' => ∃ v, e = .returned v ∧ EsOwn w' w.heap.size v (openL (costP cf) 0 ps) ∧ Below w.heap.size w w' := by
  have HE := Lib.hid h
  have HF := Lib.hid hF
  clear h hF
  go_enter Try.func33, Try.ntmps33
  go_wp2_with fail
  go_loopw [5, 12] (fun o i wr => ∃ k : Nat, k ≤ ps.length ∧ i = .int .i64 k ∧ Hid (EsOwn wr w.heap.size o (openL (costP cf) 0 (ps.take k))) ∧ Hid (Below w.heap.size w wr)) (fun _ i _ => ps.length + 1 - (intOf i).toNat)
  case atStart => exact ⟨0, by omega, rfl, EsOwn.nil _ _, Below.refl _ _⟩
  case round =>
    obtain ⟨k, hk, rfl, HO, HB⟩ := hrel
    by_cases hlt : k < ps.length
    · obtain ⟨p, hp⟩ : ∃ p, ps[k]? = some p := ⟨ps[k], List.getElem?_eq_getElem hlt⟩
      have HT := Lib.hid (openL_take (f := (costP cf)) hp)
      have hol : (openL (costP cf) 0 (ps.take k)).length ≤ k := Nat.le_trans (openL_len _ _ _) (by rw [List.length_take]; omega)
      generalize openL (costP cf) 0 (ps.take k) = ys at HO HT hol
      obtain ⟨b, off, rfl, hb, hr⟩ := PsAt.at_ (HE.out.below HB.out (Nat.le_refl _)) hp
      have hok := HE.out.ok p (List.mem_of_getElem? hp)
      have HOK := Lib.hid hok
      have HP1 := Lib.hid (PtOk.pones hok)
      have HE1 : Hid (∀ (n : Nat) (c : Int), ∀ u ∈ (En.cs ⟨p, n, c⟩).toList, u.oneCell' = true) := fun n c => PtOk.ones (x := ⟨p, n, c⟩) hok
      have HR := Lib.hid hr
      have hws := HB.out.size
      clear hr hok hp
      obtain ⟨A2, c2, rfl⟩ := OwnM.form HO.out
      have HC1 : Hid (CellsAt (wr.alloc (.cells p.cs 38)) wr.heap.size p.cs 38) := CellsAt.new _ _ _
      have HC2 : Hid (CellsAt ((wr.alloc (.cells p.cs 38)).alloc (.cells (En.cs ⟨p, k, 0⟩) 79)) wr.heap.size p.cs 38) := HC1.out.alloc _
      have HC3 : Hid (CellsAt ((wr.alloc (.cells p.cs 38)).alloc (.cells (En.cs ⟨p, k, 0⟩) 79)) (wr.heap.size + 1) (En.cs ⟨p, k, 0⟩) 79) := by
        have h := CellsAt.new (wr.alloc (.cells p.cs 38)) (En.cs ⟨p, k, 0⟩) 79
        rwa [show (wr.alloc (.cells p.cs 38)).heap.size = wr.heap.size + 1 by simp] at h
      have HB3 : Hid (Below w.heap.size w ((wr.alloc (.cells p.cs 38)).alloc (.cells (En.cs ⟨p, k, 0⟩) 79))) := (HB.out.alloc hws _).alloc (by simp; omega) _
      have HO3 : Hid (EsOwn ((wr.alloc (.cells p.cs 38)).alloc (.cells (En.cs ⟨p, k, 0⟩) 79)) w.heap.size (.slice A2 ys.length c2) ys) := (HO.out.alloc _).alloc _
      have hle : ys.length ≤ 1000000 := by omega
      have HLT := Lib.hid (fun q (hq : (Value.slice A2 ys.length c2).ownBlock = some q) => (HO.out.lt q hq).2)
      by_cases hkd : p.kind = 1
      · have q0 := neq_func F C
        have q1 : (p.kind != 1) = false := by rw [hkd]; rfl
        have l1 := (HC2.out.c 22).trans (show p.cs[22]? = some (.int .i64 p.kind) from rfl)
        have HONE : Hid (oneL (costP cf) k p = [⟨p, k, 0⟩]) := by
          show _ = _
          unfold oneL costP
          rw [if_pos hkd]
        clear hkd
        have HC9 : Hid (CellsAt (((wr.alloc (.cells p.cs 38)).alloc (.cells (En.cs ⟨p, k, 0⟩) 79)).alloc (.cells (En.cs ⟨p, k, 0⟩) 79)) ((wr.alloc (.cells p.cs 38)).alloc (.cells (En.cs ⟨p, k, 0⟩) 79)).heap.size (En.cs ⟨p, k, 0⟩) 79) := CellsAt.new _ _ _
        have HBS : Hid (w.heap.size ≤ (((wr.alloc (.cells p.cs 38)).alloc (.cells (En.cs ⟨p, k, 0⟩) 79)).alloc (.cells (En.cs ⟨p, k, 0⟩) 79)).heap.size) := by
          show _ ≤ _
          simp
          omega
        go_wp2_with (with_reducible show wpList _ _ _ (_ :: _) _ _; first | refine wpList_load_path' rfl (.tmp 15) rfl b (off + k * 29) rfl p HR.out ?_ | refine wpList_store_path rfl (.tmp 7) (.tmp 16) rfl rfl p rfl rfl HP1.out ?_ | refine wpList_load_path' rfl (.tmp 7) rfl wr.heap.size 0 rfl p HC1.out.range ?_ | refine wpList_make_entry rfl (.tmp 17) (.tmp 18) _ rfl p k rfl rfl rfl ?_ | refine wpList_store_entry_n (wr.heap.size + 1) (by simp) rfl (.tmp 8) (.tmp 19) rfl rfl ⟨p, k, 0⟩ rfl rfl (HE1.out k 0) ?_ | refine wpList_load_entry rfl (.tmp 8) rfl (wr.heap.size + 1) 0 rfl ⟨p, k, 0⟩ HC3.out.range ?_ | refine wpList_build_entry rfl (.tmp 39) rfl ⟨p, k, 0⟩ rfl ?_ | refine wpList_append_entry rfl (.tmp 38) (.tmp 40) rfl w.heap.size (.slice A2 ys.length c2) ys rfl (Lib.hid (EsOwn.alloc HO3.out _)) ⟨p, k, 0⟩ (((wr.alloc (.cells p.cs 38)).alloc (.cells (En.cs ⟨p, k, 0⟩) 79))).heap.size rfl HC9 (Lib.hid (HE1.out _ _)) hle HBS.out ?_)
        intro A3 c3 w3 HOWN HBG HGR
        go_wp2_with fail
        exact ⟨⟨k + 1, by omega, by go_num, by rw [HT.out, HONE.out]; exact HOWN.out, HBG.out _ _ (HB3.out.alloc (by simp; omega) _) (Nat.le_refl _)⟩, by simp [intOf]; omega⟩
      · have q0 := neq_func F C
        have q1 : (p.kind != 1) = true := by rw [bne_iff_ne]; exact hkd
        have l1 := (HC2.out.c 22).trans (show p.cs[22]? = some (.int .i64 p.kind) from rfl)
        have l2 := (HC2.out.c 8).trans (show p.cs[8]? = some (.string p.next) from rfl)
        have HCP : Hid (costP cf p = cf p.next) := by
          show _ = _
          unfold costP
          rw [if_neg hkd]
        clear hkd
        go_wp2_with (with_reducible show wpList _ _ _ (_ :: _) _ _; first | refine wpList_load_path' rfl (.tmp 15) rfl b (off + k * 29) rfl p HR.out ?_ | refine wpList_store_path rfl (.tmp 7) (.tmp 16) rfl rfl p rfl rfl HP1.out ?_ | refine wpList_load_path' rfl (.tmp 7) rfl wr.heap.size 0 rfl p HC1.out.range ?_ | refine wpList_make_entry rfl (.tmp 17) (.tmp 18) _ rfl p k rfl rfl rfl ?_ | refine wpList_store_entry_n (wr.heap.size + 1) (by simp) rfl (.tmp 8) (.tmp 19) rfl rfl ⟨p, k, 0⟩ rfl rfl (HE1.out k 0) ?_)
        rw [HF.out.1, Oper.upon_enter]
        refine (HF.out.2 _ _ HB3.out).mono ?_
        rintro e w4 ⟨rfl, hb4⟩
        have HB4 : Hid (Below w.heap.size w w4) := HB3.out.trans (hb4.mono (by simp; omega))
        have HC4 : Hid (CellsAt w4 (wr.heap.size + 1) (En.cs ⟨p, k, 0⟩) 79) := HC3.out.below hb4 (by simp)
        have HO4 : Hid (EsOwn w4 w.heap.size (.slice A2 ys.length c2) ys) := HO3.out.below hb4 (by simp)
        have hs4 : wr.heap.size + 2 ≤ w4.heap.size := by have := hb4.size; simp at this; omega
        clear hb4 l1 l2 HC2 HC3 HB3 HO3
        cases hcf : cf p.next with
        | none =>
          have HONE : Hid (oneL (costP cf) k p = []) := by
            show _ = _
            unfold oneL
            rw [HCP.out, hcf]
          have e1 : costV none = .tuple #[.int .i64 0, .bool false] := rfl
          rw [e1]
          obtain ⟨m0, m1⟩ := cell_of_at HC4.out
          go_wp2_with fail
          exact ⟨⟨k + 1, by omega, by go_num, by rw [HT.out, HONE.out, List.append_nil]; exact OwnM.setCell HO4.out (fun q hq => by have := HLT.out q hq; show q ≠ wr.heap.size + 1; omega) _, below_setCell HB4.out (by show _ ≤ wr.heap.size + 1; omega) _⟩, by simp [intOf]; omega⟩
        | some cst =>
          have HONE : Hid (oneL (costP cf) k p = [⟨p, k, cst⟩]) := by
            show _ = _
            unfold oneL
            rw [HCP.out, hcf]
          have e1 : costV (some cst) = .tuple #[.int .i64 cst, .bool true] := rfl
          rw [e1]
          obtain ⟨m0, m1⟩ := cell_of_at HC4.out
          have HC5 := Lib.hid (cost_laid (d := cst) HC4.out)
          have HO5 : Hid (EsOwn (w4.setCell ⟨wr.heap.size + 1, 30, none⟩ (.int .i64 cst)) w.heap.size (.slice A2 ys.length c2) ys) := OwnM.setCell HO4.out (fun q hq => by have := HLT.out q hq; show q ≠ wr.heap.size + 1; omega) _
          have HB5 : Hid (Below w.heap.size w (w4.setCell ⟨wr.heap.size + 1, 30, none⟩ (.int .i64 cst))) := below_setCell HB4.out (by show _ ≤ wr.heap.size + 1; omega) _
          have hs5 : w.heap.size ≤ (w4.setCell ⟨wr.heap.size + 1, 30, none⟩ (.int .i64 cst)).heap.size := HB5.out.size
          have HC9 : Hid (CellsAt ((w4.setCell ⟨wr.heap.size + 1, 30, none⟩ (.int .i64 cst)).alloc (.cells (En.cs ⟨p, k, cst⟩) 79)) (w4.setCell ⟨wr.heap.size + 1, 30, none⟩ (.int .i64 cst)).heap.size (En.cs ⟨p, k, cst⟩) 79) := CellsAt.new _ _ _
          have HBS : Hid (w.heap.size ≤ ((w4.setCell ⟨wr.heap.size + 1, 30, none⟩ (.int .i64 cst)).alloc (.cells (En.cs ⟨p, k, cst⟩) 79)).heap.size) := by
            show _ ≤ _
            simp only [World.size_alloc]
            omega
          have HS5 := Lib.hid hs5
          clear hs5
          go_wp2_with (with_reducible show wpList _ _ _ (_ :: _) _ _; first | refine wpList_load_entry rfl (.tmp 8) rfl (wr.heap.size + 1) 0 rfl ⟨p, k, cst⟩ HC5.out.range ?_ | refine wpList_build_entry rfl (.tmp 39) rfl ⟨p, k, cst⟩ rfl ?_ | refine wpList_append_entry rfl (.tmp 38) (.tmp 40) rfl w.heap.size (.slice A2 ys.length c2) ys rfl (Lib.hid (EsOwn.alloc HO5.out _)) ⟨p, k, cst⟩ ((w4.setCell ⟨wr.heap.size + 1, 30, none⟩ (.int .i64 cst))).heap.size rfl HC9 (Lib.hid (HE1.out _ _)) hle HBS.out ?_)
          intro A3 c3 w3 HOWN HBG HGR
          go_wp2_with fail
          exact ⟨⟨k + 1, by omega, by go_num, by rw [HT.out, HONE.out]; exact HOWN.out, HBG.out _ _ (HB5.out.alloc HS5.out _) (Nat.le_refl _)⟩, by simp [intOf]; omega⟩
    · obtain rfl : k = ps.length := by omega
      rw [List.take_length] at HO
      obtain ⟨A2, c2, rfl⟩ := OwnM.form HO.out
      go_wp2_with fail
      go_ret
      exact ⟨_, rfl, HO.out, HB.out⟩
end Go.Proofs.Ytoamigfjpcniaaa
