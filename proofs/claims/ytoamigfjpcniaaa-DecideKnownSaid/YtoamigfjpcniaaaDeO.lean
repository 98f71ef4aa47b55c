/-
  The chapter's paths. Conditions: sizes.
-/
import Derived.Test.YtoamigfjpcniaaaDeN
set_option linter.unusedVariables false
set_option linter.unusedSimpArgs false
namespace Go.Proofs.Ytoamigfjpcniaaa
open Go.RowKit Go.MapKept Go.Shelf
open Go.Lib hiding intOf

/-- a path of a neighbour -/
def mkP (peer : ByteArray) (id : Int) (A : Option Addr) (segs : List Sg) (c : Nat) : Pt :=
  ⟨0, 0, ⟨#[]⟩, 0, 0, 0, 0, A, segs, c, ⟨#[]⟩, false, 0, false, 0, false, 0, 0, .slice none 0 0, .slice none 0 0, .slice none 0 0, false, 0, none, [], 0, 2, peer, 0, id, ⟨#[]⟩, ⟨#[]⟩, false⟩
theorem mkP_ones (peer : ByteArray) (id : Int) (A : Option Addr) (segs : List Sg) (c : Nat) : ∀ u ∈ (mkP peer id A segs c).cs.toList, u.oneCell' = true := by
  intro u hu
  unfold Pt.cs mkP at hu
  simp only [List.mem_cons, List.not_mem_nil, or_false] at hu
  rcases hu with rfl | rfl | rfl | rfl | rfl | rfl | rfl | rfl | rfl | rfl | rfl | rfl | rfl | rfl | rfl | rfl | rfl | rfl | rfl | rfl | rfl | rfl | rfl | rfl | rfl | rfl | rfl | rfl | rfl <;> rfl
theorem results_path {fn : Func} {p : Tmp} (h : fn.results = #[.cell p 38]) (tmps : Array Value) (w : World) (g : Nat) (x : Pt) (hp : tmps.getD p undef = .pointer (some ⟨g, 0, none⟩)) (hg : CellsAt w g x.cs 38) :
    (results fn tmps).run Try.prog w = .ok x.v w := by
  obtain ⟨fs, hu⟩ := path_under
  exact results_cell_row h tmps w g 38 x.cs (0, 0) _ hp hg hu rfl (by rw [path_size]; rfl)
section
variable {ops : Array Oper} {rest : List Oper} {op : Oper} {a : Act} {w : World} {Q : Exit → Act → World → Prop}
theorem wpList_over_path {old : Array Value} {g : Nat} (hgd : op.guard = none) (x y : Operand) (ho : op.op = .store 38 x y) (hx : a.eval x = .pointer (some ⟨g, 0, none⟩)) (e : Pt) (hy : a.eval y = .agg e.cs)
    (hold : old.size = 29) (hg : CellsAt w g old 38) (h1 : ∀ u ∈ e.cs.toList, u.oneCell' = true) (h : wpList Try.prog ops Q rest (a.put op.dst undef) (w.setRow g e.cs)) : wpList Try.prog ops Q (op :: rest) a w :=
  wpList_store_row hgd 38 x y ho g e.cs hx hy 38 old hg (by rw [path_size]; rfl) hold (by have := all_oneCell_toArray h1; rwa [Array.toArray_toList] at this) h
theorem wpList_store_path_n {Z : Array Value} (n : Nat) (hn : w.heap.size = n) (hgd : op.guard = none) (x y : Operand) (ho : op.op = .store 38 x y) (hx : a.eval x = .pointer (some ⟨n, 0, none⟩)) (e : Pt) (hy : a.eval y = .agg e.cs)
    (hZ : Z.size = 29) (h1 : ∀ u ∈ e.cs.toList, u.oneCell' = true) (h : wpList Try.prog ops Q rest (a.put op.dst undef) (w.alloc (.cells e.cs 38))) : wpList Try.prog ops Q (op :: rest) a (w.alloc (.cells Z 38)) := by
  subst hn
  exact wpList_store_path hgd x y ho hx e hy hZ h1 h
end
abbrev zeroPt : Array Value := #[.int .i64 0, .int .u64 0, .string ⟨#[]⟩, .int .i64 0, .int .u32 0, .int .u32 0, .int .i64 0, .slice none 0 0, .string ⟨#[]⟩, .bool false, .int .u32 0, .bool false, .int .u32 0, .bool false, .int .u32 0, .int .u32 0, .slice none 0 0, .slice none 0 0, .slice none 0 0, .bool false, .int .u32 0, .slice none 0 0, .int .i64 0, .string ⟨#[]⟩, .int .u32 0, .int .u32 0, .string ⟨#[]⟩, .string ⟨#[]⟩, .bool false]
theorem path_laid {w : World} {b : Nat} {peer : ByteArray} {id : Int} {A : Option Addr} {s : Sg} {c : Nat} (h : CellsAt w b (mkP peer id none [] 0).cs 38) : CellsAt (w.setCell ⟨b, 7, none⟩ (.slice A 1 c)) b (mkP peer id A [s] c).cs 38 := by
  have h2 : w.heap[b]? = some (.cells (mkP peer id none [] 0).cs 38 (0, 0)) := h
  rw [setCell_eq_setRow w b 7 _ _ _ _ h2]
  exact setRow_heap w b _ _ _ _ h2
theorem mkP_ok {w : World} {peer : ByteArray} {id : Int} {A : Option Addr} {segs : List Sg} {c : Nat} (h1 : Rd w A 2 (segs.map Sg.cs)) (h2 : ∀ s ∈ segs, SgOk w s) (h3 : segs.length ≤ c) (h4 : c ≤ maxLen) (h5 : peer.size ≤ 9223372036854775807) : PtOk w (mkP peer id A segs c) :=
  ⟨h1, h2, h3, h4, Nat.le_refl _, Nat.zero_le _, h5, Nat.zero_le _, fun hl => absurd hl (by simp [mkP]), rfl, rfl, rfl⟩

set_option maxRecDepth 100000 in
set_option maxHeartbeats 4000000 in
theorem path_any (peer : ByteArray) (id : Int) (s : Sg) (w : World) (hk : s.kind = 2) (h : SgOk w s) (h0 : 0 < s.as_.length) (hp : peer.size ≤ 9223372036854775807) :
    Calls Try.prog 30 #[.string peer, .int .u32 id, .slice s.A s.as_.length s.cap] w fun e w' => ∃ A c, e = .returned (mkP peer id A [s] c).v ∧ PtOk w' (mkP peer id A [s] c) ∧ Below w.heap.size w w' := by
  have HS := Lib.hid h
  have HK := Lib.hid hk
  have HPS := Lib.hid hp
  have HO := Lib.hid (mkP_ones peer id none [] 0)
  clear h hk hp
  have HC0 : Hid (CellsAt (w.alloc (.cells zeroPt 38)) w.heap.size zeroPt 38) := CellsAt.new _ _ _
  have HB1 : Hid (Below w.heap.size w ((w.alloc (.cells zeroPt 38)).alloc (.cells (mkP peer id none [] 0).cs 38))) := ((Below.refl _ _).alloc (Nat.le_refl _) _).alloc (by simp) _
  have hcap := HS.out.len
  have hcap2 : s.cap ≤ 9223372036854775807 := HS.out.cap
  have HC2 : Hid (CellsAt (((w.alloc (.cells zeroPt 38)).alloc (.cells (mkP peer id none [] 0).cs 38)).alloc (.cells #[.int .i64 2, .slice s.A s.as_.length s.cap] 84)) (w.heap.size + 1) (mkP peer id none [] 0).cs 38) := by
    have h := CellsAt.new (w.alloc (.cells zeroPt 38)) (mkP peer id none [] 0).cs 38
    rw [show (w.alloc (.cells zeroPt 38)).heap.size = w.heap.size + 1 by simp] at h
    exact h.alloc _
  have HC3 : Hid (CellsAt (((w.alloc (.cells zeroPt 38)).alloc (.cells (mkP peer id none [] 0).cs 38)).alloc (.cells #[.int .i64 2, .slice s.A s.as_.length s.cap] 84)) (w.heap.size + 1 + 1) #[.int .i64 2, .slice s.A s.as_.length s.cap] 84) := by
    have h := CellsAt.new ((w.alloc (.cells zeroPt 38)).alloc (.cells (mkP peer id none [] 0).cs 38)) #[.int .i64 2, .slice s.A s.as_.length s.cap] 84
    rwa [show ((w.alloc (.cells zeroPt 38)).alloc (.cells (mkP peer id none [] 0).cs 38)).heap.size = w.heap.size + 1 + 1 by simp] at h
  have HCZ2 : Hid (CellsAt (((w.alloc (.cells zeroPt 38)).alloc (.cells ((mkP peer id none [] 0).cs.setIfInBounds 7 (.slice (some ⟨w.heap.size + 1 + 1, 0, none⟩) 1 1)) 38)).alloc (.cells #[.int .i64 2, .slice s.A s.as_.length s.cap] 84)) w.heap.size zeroPt 38) := (HC0.out.alloc _).alloc _
  have HB3 : Hid (Below w.heap.size w (((w.alloc (.cells zeroPt 38)).alloc (.cells ((mkP peer id none [] 0).cs.setIfInBounds 7 (.slice (some ⟨w.heap.size + 1 + 1, 0, none⟩) 1 1)) 38)).alloc (.cells #[.int .i64 2, .slice s.A s.as_.length s.cap] 84))) := (((Below.refl _ _).alloc (Nat.le_refl _) _).alloc (by simp) _).alloc (by simp; omega) _
  have HC4 : Hid (CellsAt (((w.alloc (.cells zeroPt 38)).alloc (.cells ((mkP peer id none [] 0).cs.setIfInBounds 7 (.slice (some ⟨w.heap.size + 1 + 1, 0, none⟩) 1 1)) 38)).alloc (.cells #[.int .i64 2, .slice s.A s.as_.length s.cap] 84)) (w.heap.size + 1) (mkP peer id (some ⟨w.heap.size + 1 + 1, 0, none⟩) [s] 1).cs 38) := by
    have h := CellsAt.new (w.alloc (.cells zeroPt 38)) ((mkP peer id none [] 0).cs.setIfInBounds 7 (.slice (some ⟨w.heap.size + 1 + 1, 0, none⟩) 1 1)) 38
    rw [show (w.alloc (.cells zeroPt 38)).heap.size = w.heap.size + 1 by simp] at h
    exact h.alloc _
  have HC5 : Hid (CellsAt (((w.alloc (.cells zeroPt 38)).alloc (.cells ((mkP peer id none [] 0).cs.setIfInBounds 7 (.slice (some ⟨w.heap.size + 1 + 1, 0, none⟩) 1 1)) 38)).alloc (.cells #[.int .i64 2, .slice s.A s.as_.length s.cap] 84)) (w.heap.size + 1 + 1) #[.int .i64 2, .slice s.A s.as_.length s.cap] 84) := by
    have h := CellsAt.new ((w.alloc (.cells zeroPt 38)).alloc (.cells ((mkP peer id none [] 0).cs.setIfInBounds 7 (.slice (some ⟨w.heap.size + 1 + 1, 0, none⟩) 1 1)) 38)) #[.int .i64 2, .slice s.A s.as_.length s.cap] 84
    rwa [show ((w.alloc (.cells zeroPt 38)).alloc (.cells ((mkP peer id none [] 0).cs.setIfInBounds 7 (.slice (some ⟨w.heap.size + 1 + 1, 0, none⟩) 1 1)) 38)).heap.size = w.heap.size + 1 + 1 by simp] at h
  have m0 := (HC2.out.c 7).trans (show (mkP peer id none [] 0).cs[7]? = some (.slice none 0 0) from rfl)
  have m1 : (((w.alloc (.cells zeroPt 38)).alloc (.cells (mkP peer id none [] 0).cs 38)).alloc (.cells #[.int .i64 2, .slice s.A s.as_.length s.cap] 84)).frozen? ⟨w.heap.size + 1, 7, none⟩ = false := by
    have h2 : (((w.alloc (.cells zeroPt 38)).alloc (.cells (mkP peer id none [] 0).cs 38)).alloc (.cells #[.int .i64 2, .slice s.A s.as_.length s.cap] 84)).heap[w.heap.size + 1]? = some (.cells (mkP peer id none [] 0).cs 38 (0, 0)) := HC2.out
    simp only [World.frozen?, h2]
    rfl
  have HO2 := Lib.hid (mkP_ones peer id (some ⟨w.heap.size + 1 + 1, 0, none⟩) [s] 1)
  clear HC2 HC3 HC0 HB1
  go_enter Try.func30, Try.ntmps30
  go_wp2_with (with_reducible show wpList _ _ _ (_ :: _) _ _; first | refine wpList_store_path_n (w.heap.size + 1) (by simp) rfl (.tmp 7) (.tmp 11) rfl rfl (mkP peer id none [] 0) rfl rfl HO.out ?_ | refine wpList_load_path' rfl (.tmp 7) rfl (w.heap.size + 1) 0 rfl (mkP peer id (some ⟨w.heap.size + 1 + 1, 0, none⟩) [s] 1) HC4.out.range ?_ | refine wpList_over_path rfl (.tmp 6) (.tmp 20) rfl rfl (mkP peer id (some ⟨w.heap.size + 1 + 1, 0, none⟩) [s] 1) rfl rfl HCZ2.out HO2.out ?_)

  refine bodyPost_ret (results_path rfl _ _ w.heap.size (mkP peer id (some ⟨w.heap.size + 1 + 1, 0, none⟩) [s] 1) rfl (setRow_heap _ w.heap.size _ _ _ _ HCZ2.out)) rfl ?_
  have HBR : Below w.heap.size w (World.setRow (((w.alloc (.cells zeroPt 38)).alloc (.cells ((mkP peer id none [] 0).cs.setIfInBounds 7 (.slice (some ⟨w.heap.size + 1 + 1, 0, none⟩) 1 1)) 38)).alloc (.cells #[.int .i64 2, .slice s.A s.as_.length s.cap] 84)) w.heap.size (mkP peer id (some ⟨w.heap.size + 1 + 1, 0, none⟩) [s] 1).cs) := Go.below_setRow HB3.out (Nat.le_refl _) _
  have HC6 : CellsAt (World.setRow (((w.alloc (.cells zeroPt 38)).alloc (.cells ((mkP peer id none [] 0).cs.setIfInBounds 7 (.slice (some ⟨w.heap.size + 1 + 1, 0, none⟩) 1 1)) 38)).alloc (.cells #[.int .i64 2, .slice s.A s.as_.length s.cap] 84)) w.heap.size (mkP peer id (some ⟨w.heap.size + 1 + 1, 0, none⟩) [s] 1).cs) (w.heap.size + 1 + 1) #[.int .i64 2, .slice s.A s.as_.length s.cap] 84 := (setRow_other _ _ _ _ (by omega)).trans HC5.out
  refine ⟨_, _, rfl, mkP_ok (fun _ => ⟨_, 0, rfl, HC6.lt, fun i cs hi j u hu => ?_⟩) (fun z hz => ?_) (Nat.le_refl _) (by decide) HPS.out, HBR⟩
  · match i, hi with
    | 0, hi =>
      obtain rfl : s.cs = cs := Option.some.inj hi
      rw [show 0 + 0 * 2 + j = j by omega, HC6.c]
      unfold Sg.cs at hu
      rw [HK.out] at hu
      rw [← Array.getElem?_toList]
      exact hu
    | i + 1, hi => cases hi
  · simp only [List.mem_singleton] at hz
    subst hz
    exact HS.out.below HBR (Nat.le_refl _)

def sgA (A : Option Addr) (l : List Nat) (c : Nat) : Sg := ⟨2, A, l, c⟩
/-- AS numbers, just laid -/
theorem sg_new {w : World} {b : Nat} {T : TypeId} {l : List Nat} (h : CellsAt w b (l.map fun n => Value.int .u32 (n : Nat)).toArray T) (hl : l.length ≤ 1000000) (hf : ∀ n ∈ l, n < 4294967296) : SgOk w (sgA (some ⟨b, 0, none⟩) l l.length) := by
  refine ⟨fun _ => ⟨b, 0, rfl, h.lt, fun i cs hi j u hu => ?_⟩, Nat.le_refl _, by show l.length ≤ maxLen; unfold maxLen; omega, hf⟩
  rw [List.getElem?_map] at hi
  cases hx : (sgA (some ⟨b, 0, none⟩) l l.length).as_[i]? with
  | none => rw [hx] at hi; cases hi
  | some n =>
    rw [hx] at hi
    obtain rfl : [Value.int .u32 (n : Nat)] = cs := Option.some.inj hi
    match j, hu with
    | 0, hu =>
      obtain rfl : Value.int .u32 (n : Nat) = u := Option.some.inj hu
      have hx2 : l[i]? = some n := hx
      rw [show 0 + i * 1 + 0 = i by omega, h.c, List.getElem?_toArray, List.getElem?_map, hx2]
      rfl
    | j + 1, hu => cases hu
/-- three paths beside each other -/
def rows (ps : List Pt) : Array Value := (ps.flatMap fun p => p.cs.toList).toArray
theorem rows_at {w : World} {b : Nat} {ps : List Pt} (h : CellsAt w b (rows ps) 38) (hl : ps.length ≤ 1000000) (hok : ∀ p ∈ ps, PtOk w p) : PsAt w (some ⟨b, 0, none⟩) ps.length ps := by
  refine ⟨fun _ => ⟨b, 0, rfl, h.lt, fun i cs hi j u hu => ?_⟩, Nat.le_refl _, by unfold maxLen; omega, hok⟩
  rw [List.getElem?_map] at hi
  cases hx : ps[i]? with
  | none => rw [hx] at hi; cases hi
  | some p =>
    rw [hx] at hi
    obtain rfl : p.cs.toList = cs := Option.some.inj hi
    have key : ∀ (ps : List Pt) (i : Nat), ps[i]? = some p → (ps.flatMap fun p => p.cs.toList)[i * 29 + j]? = some u := by
      intro ps
      induction ps with
      | nil => intro i h; cases h
      | cons q r ih =>
        intro i h
        have e : q.cs.toList.length = 29 := rfl
        cases i with
        | zero =>
          obtain rfl : q = p := Option.some.inj h
          rw [List.flatMap_cons, Nat.zero_mul, Nat.zero_add, List.getElem?_append_left (List.getElem?_eq_some_iff.1 hu).1]
          exact hu
        | succ i =>
          rw [List.flatMap_cons, List.getElem?_append_right (by rw [e]; omega), e, show (i + 1) * 29 + j - 29 = i * 29 + j by omega]
          exact ih i h
    rw [Nat.zero_add, h.c]
    unfold rows
    rw [List.getElem?_toArray]
    exact key ps i hx
/-- a slice literal of paths -/
theorem wpList_build_paths {ops : Array Oper} {rest : List Oper} {op : Oper} {a : Act} {w : World} {Q : Exit → Act → World → Prop} {n : Nat} {parts : Array (Nat × Operand)} (hgd : op.guard = none) (ho : op.op = .buildSlice 23 n parts) (ps : List Pt)
    (hv : (parts.map fun (i, x) => (i, a.eval x)).toList = ((ps.map fun p => Value.agg p.cs).zipIdx 0).map fun x => (x.2, x.1)) (hn : ps.length = n) (h0 : 0 < n) (hs : n ≤ 1000)
    (h : wpList Try.prog ops Q rest (a.put op.dst (.slice (some ⟨w.heap.size, 0, none⟩) n n)) (w.alloc (.cells (rows ps) 38))) : wpList Try.prog ops Q (op :: rest) a w := by
  obtain ⟨i0, z0, hi, hz0, hz1, hz2, hz3⟩ := infoPt
  refine wpList_build_rows hgd ho (ps.map fun p => Value.agg p.cs) hv (by rw [List.length_map]; exact hn) (s := 29) (fun v hv => by obtain ⟨p, _, rfl⟩ := List.mem_map.1 hv; rfl) i0 z0 Try.underlying23 hi hz0 hz1 (by decide) h0 (by omega) ?_
  have e : ((ps.map fun p => Value.agg p.cs).flatMap fun v => v.cells.toList).toArray = rows ps := by
    unfold rows
    rw [List.flatMap_map]
    rfl
  rw [e]
  exact h
/-- the chapter's two pairs -/
theorem pick1 (A B : Option Addr) (sa sb : Sg) (ca cb : Nat) (ha : sa.kind = 2 ∧ sa.as_ = [1, 2]) (hb : sb.kind = 2 ∧ sb.as_ = [1]) : bestV (bestF (openL freeP 0 [mkP ⟨#[97]⟩ 1 A [sa] ca, mkP ⟨#[98]⟩ 2 B [sb] cb])) = .tuple #[.int .i64 1, .bool true] := by
  obtain ⟨k1, A1, l1, c1⟩ := sa
  obtain ⟨k2, A2, l2, c2⟩ := sb
  obtain ⟨rfl, rfl⟩ := ha
  obtain ⟨rfl, rfl⟩ := hb
  kernel_rfl
end Go.Proofs.Ytoamigfjpcniaaa
