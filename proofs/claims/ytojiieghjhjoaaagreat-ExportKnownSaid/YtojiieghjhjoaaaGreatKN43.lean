/-
  Several texts in one.
-/
import Derived.Test.YtojiieghjhjoaaaGreatKN42
import Derived.BigRegion
set_option linter.unusedVariables false
set_option linter.unusedSimpArgs false
namespace Go.Proofs.YtojiieghjhjoaaaGreat
open Go.RowKit Go.MapKept Go.Shelf
open Go.Lib hiding intOf

theorem sA {α : Type} {l : List α} {i : Nat} {a : α} : l.toArray.setIfInBounds i a = (l.set i a).toArray := List.setIfInBounds_toArray _ _ _
theorem sZ {α : Type} {x : α} {xs : List α} {b : α} : (x :: xs).set 0 b = b :: xs := List.set_cons_zero
theorem sS {α : Type} {x : α} {xs : List α} {i : Nat} {b : α} : (x :: xs).set (i + 1) b = x :: xs.set i b := List.set_cons_succ
section
variable {ops : Array Oper} {Q : Exit → Act → World → Prop}
end
theorem setMany_get : ∀ (vs : List Value) (o : Nat) (cs : Array Value) (i : Nat), o + vs.length ≤ cs.size → (setMany cs o vs)[i]? = if o ≤ i ∧ i < o + vs.length then vs[i - o]? else cs[i]?
  | [], o, cs, i, _ => by
    rw [if_neg (by simp)]
    rfl
  | v :: r, o, cs, i, h => by
    show (setMany (cs.setIfInBounds o v) (o + 1) r)[i]? = _
    rw [List.length_cons] at h ⊢
    rw [setMany_get r (o + 1) _ i (by rw [Array.size_setIfInBounds]; omega)]
    by_cases h1 : i = o
    · subst h1
      rw [if_neg (by omega), if_pos (by omega), Nat.sub_self, Array.getElem?_setIfInBounds, if_pos rfl, if_pos (by omega)]
      rfl
    · by_cases h2 : o + 1 ≤ i ∧ i < o + 1 + r.length
      · rw [if_pos h2, if_pos (by omega), show i - o = (i - (o + 1)) + 1 by omega, List.getElem?_cons_succ]
      · rw [if_neg h2, if_neg (by omega), Array.getElem?_setIfInBounds, if_neg (Ne.symm h1)]
theorem setMany_all (old cs : Array Value) (h : cs.size = old.size) : setMany old 0 cs.toList = cs := by
  apply Array.ext_getElem?
  intro i
  rw [setMany_get cs.toList 0 old i (by rw [Array.length_toList]; omega)]
  by_cases hi : i < cs.size
  · rw [if_pos (by rw [Array.length_toList]; omega), Nat.sub_zero, Array.getElem?_toList]
  · rw [if_neg (by rw [Array.length_toList]; omega), Array.getElem?_eq_none (by omega), Array.getElem?_eq_none (by omega)]
theorem wp_over_row {op : Oper} {a : Act} {w : World} {K : Act → World → Prop} {Q : Exit → Act → World → Prop} {old : Array Value} (T : TypeId) (x y : Operand) (ho : op.op = .store T x y) (b : Nat) (hx : a.eval x = .pointer (some ⟨b, 0, none⟩)) (cs : Array Value) (hy : a.eval y = .agg cs) (n : Nat) (hs : (Tryz.prog.info? T).map (·.size) = some n) (hn : cs.size = n) (ho2 : old.size = n) (hc : CellsAt w b old T) (h1 : cs.all (·.oneCell') = true)
    (h : ∀ V, Hid (CellsAt V b cs T) → Hid (w.grownBy V (some b)) → K (a.put op.dst undef) V) : op.wp Tryz.prog a w K Q := by
  have ht : w.there b 0 cs.size := hc.thereN 0 _ (by rw [Nat.zero_add, hn, ho2]; exact Nat.le_refl _)
  refine wp_store_mid T x y ho b 0 cs hx hy ht (by rw [hs, hn]) h1 (h _ ?_ (grown_setMany _ _ _))
  have h2 := CellsAt.setMany cs.toList 0 w old hc
  have e : setMany old 0 cs.toList = cs := setMany_all old cs (by rw [hn, ho2])
  rwa [e] at h2
theorem pr_fams {W : World} {p : Pr} {n : Nat} {c : Int} (h1 : CellsAt W n #[.int .i64 c] 3) (hn : p.name.size ≤ 9223372036854775807) (ha : p.as_ < 4294967296) : PrOk W { p with fA := some ⟨n, 0, none⟩, fams := [c], fC := 1 } :=
  ⟨fun _ => ⟨n, 0, rfl, h1.lt, fun i cs hi j u hu => by
    match i, hi with
    | 0, hi =>
      obtain rfl : [Value.int .i64 c] = cs := Option.some.inj hi
      rw [show 0 + 0 * 1 + j = j by omega, h1.c, ← Array.getElem?_toList]
      exact hu
    | i + 1, hi => cases hi⟩, Nat.le_refl _, show (1 : Nat) ≤ maxLen by decide, hn, ha⟩
/-- a path with one community -/
def pcom (p : Pth) (n c : Nat) : Pth := { p with a := { p.a with mA := some ⟨n, 0, none⟩, comms := [c], mC := 1 } }
theorem pcom_ok {W : World} {p : Pth} {n c : Nat} (h : PthOk W p) (h1 : CellsAt W n #[.int .u32 (c : Nat)] 22) (hc : c < 4294967296) : PthOk W (pcom p n c) :=
  { h with
    a := { h.a with
      mrd := fun _ => ⟨n, 0, rfl, h1.lt, fun i cs hi j u hu => by
        match i, hi with
        | 0, hi =>
          obtain rfl : [Value.int .u32 ((c : Nat) : Int)] = cs := Option.some.inj hi
          rw [show 0 + 0 * 1 + j = j by omega, h1.c, ← Array.getElem?_toList]
          exact hu
        | i + 1, hi => cases hi⟩
      mlen := Nat.le_refl _
      mcap := show (1 : Nat) ≤ maxLen by decide
      mfit := fun m hm => by
        obtain rfl := List.mem_singleton.1 hm
        exact hc }
    sz := { h.sz with m := show (1 : Nat) * 4 ≤ 140737488351232 by decide } }
theorem told_K3 (b c : Nat) : (toldF g0 (mkPth 2 b) (mkPr ⟨#[97]⟩ 65001 c)).2 = false := by kernel_rfl
theorem told_K6 (b : Nat) (six : Pr) (n c : Nat) (h : six = { (mkPr ⟨#[100]⟩ 65002 c) with fA := some ⟨n, 0, none⟩, fams := [2] }) : (toldF g0 (mkPth 2 b) six).2 = false := by
  subst h
  kernel_rfl
theorem told_K9 (c : Nat) (q : Pth) (b n : Nat) (h : q = pcom (mkPth 2 b) n 4294967041) : (toldF g0 q (mkPr ⟨#[98]⟩ 65002 c)).2 = false := by
  subst h
  kernel_rfl
theorem told_K10 (c : Nat) (q : Pth) (b n : Nat) (h : q = pcom (mkPth 2 b) n 4294967041) : (toldF g0 q (mkPr ⟨#[99]⟩ 65000 c)).2 = true := by
  subst h
  kernel_rfl
theorem told_K12 (c : Nat) (q : Pth) (b n : Nat) (h : q = pcom (mkPth 2 b) n 4294967042) : (toldF g0 q (mkPr ⟨#[99]⟩ 65000 c)).2 = false := by
  subst h
  kernel_rfl
theorem told_K14 (b c : Nat) : (toldF g0 (mkPth 4 b) (mkPr ⟨#[99]⟩ 65000 c)).2 = false := by kernel_rfl
theorem told_K17 (b : Nat) (cl : Pr) (c : Nat) (h : cl = { (mkPr ⟨#[101]⟩ 65000 c) with client := true }) : (toldF g0 (mkPth 4 b) cl).2 = true := by
  subst h
  kernel_rfl
theorem cl_19 (b : Nat) (cl : Pr) (c : Nat) (h : cl = { (mkPr ⟨#[101]⟩ 65000 c) with client := true }) : (toldF g0 (mkPth 4 b) cl).1.hasOrig = true ∧ (toldF g0 (mkPth 4 b) cl).1.orig = 9 ∧ (toldF g0 (mkPth 4 b) cl).1.clus = [7] := by
  subst h
  exact ⟨by kernel_rfl, by kernel_rfl, by kernel_rfl⟩
theorem us_ones : g0.us.all Value.oneCell' = true := Array.all_eq_true_iff_forall_mem.2 (fun u hu => by
  simp only [Cfg.us, List.mem_toArray, List.mem_cons, List.not_mem_nil, or_false] at hu
  rcases hu with rfl | rfl | rfl | rfl | rfl <;> rfl)
def gC : Cfg := ⟨65000, 7, 100, 0, ⟨#[10, 0, 0, 1]⟩⟩
theorem gC_ok : gC.Ok := ⟨by decide, by decide, by decide, by decide, by decide⟩
def Z16 : ByteArray := ⟨#[0, 0, 0, 0, 0, 0, 0, 0, 0, 0, 0, 0, 0, 0, 0, 0]⟩
def K16 : Array Value := madeCells #[.int .u8 0] 16
def K32 : Array Value := madeCells #[.int .u32 0] 32
def prefV : Array Value := #[.int .i64 2, .int .u64 0, .string Z16, .int .i64 0]
theorem prefVN : (Tryz.prog.info? 27).map (·.size) = some prefV.size := by kernel_rfl
theorem prefVT {W : World} {k : Nat} {p : Pth} (h : CellsAt W k p.ar 37) : W.there k 0 prefV.size := h.thereN 0 4 (by show 0 + 4 ≤ 29; omega)
theorem nV_ok : (⟨2, 0, Z16, 0, 0, 0⟩ : Nl).Ok := ⟨by decide, by decide, by decide, by decide, by decide, by decide⟩
theorem prefV1 : prefV.all Value.oneCell' = true := Array.all_eq_true_iff_forall_mem.2 (fun u hu => by
  simp only [prefV, List.mem_toArray, List.mem_cons, List.not_mem_nil, or_false] at hu
  rcases hu with rfl | rfl | rfl | rfl <;> rfl)
/-- of all of V6 -/
def pv6 (p : Pth) : Pth := { p with n := { p.n with fam := 2, rd := 0, addr := Z16, len := 0 } }
theorem mk_strs (n : Nat) (hn : n ≤ 5000) (u : World) :
    (Instr.makeSlice 64 (.int .i64 n) (.int .i64 n)).run Tryz.prog u = .ok (.slice (some ⟨u.heap.size, 0, none⟩) n n) (u.alloc (.cells (madeCells #[.int .u8 0] n) 5)) ∧
    (convert 64 9 (.slice (some ⟨u.heap.size, 0, none⟩) n n)).run Tryz.prog (u.alloc (.cells (madeCells #[.int .u8 0] n) 5)) = .ok (.string ⟨(List.replicate n 0).toArray⟩) (u.alloc (.cells (madeCells #[.int .u8 0] n) 5)) := by
  obtain ⟨i0, hi, hz0, hz1, hz2⟩ := info_parts infoU8
  refine ⟨?_, ?_⟩
  · have h := run_make (P := Tryz.prog) u 64 5 i0 (.int .u8 0) Tryz.underlying64 hi hz0 .i64 .i64 n n (by omega) (by omega) (by rw [hz2]; omega) (by omega)
    simpa [hz1, Value.cells] using h
  · have h := run_convert_bytes_back (P := Tryz.prog) (u.alloc (.cells (madeCells #[.int .u8 0] n) 5)) 64 9 5 ⟨u.heap.size, 0, none⟩ n (List.replicate n 0) Tryz.underlying64 Tryz.underlying5 Tryz.underlying9 (fun j hj => by
      rw [add_flat, cell_of_row _ u.heap.size j _ _ _ (heap_alloc_new u _)]
      simp at hj
      simp [madeCells, hj, Nat.mod_one])
    simpa using h
theorem mk_v6 (u : World) : (Instr.makeSlice 64 (.int .i64 16) (.int .i64 16)).run Tryz.prog u = .ok (.slice (some ⟨u.heap.size, 0, none⟩) 16 16) (u.alloc (.cells K16 5)) := (mk_strs 16 (by omega) u).1
theorem conv_v6 (u : World) : (convert 64 9 (.slice (some ⟨u.heap.size, 0, none⟩) 16 16)).run Tryz.prog (u.alloc (.cells K16 5)) = .ok (.string Z16) (u.alloc (.cells K16 5)) := (mk_strs 16 (by omega) u).2
theorem mk_u32s (u : World) : (Instr.makeSlice 29 (.int .i64 32) (.int .i64 32)).run Tryz.prog u = .ok (.slice (some ⟨u.heap.size, 0, none⟩) 32 32) (u.alloc (.cells K32 22)) := by
  obtain ⟨i0, hi, hz0, hz1, hz2⟩ := info_parts infoU32
  have h := run_make (P := Tryz.prog) u 29 22 i0 (.int .u32 0) Tryz.underlying29 hi hz0 .i64 .i64 32 32 (by omega) (by omega) (by rw [hz2]; omega) (by omega)
  simpa [hz1, Value.cells, K32] using h
theorem wpList_mk_str {ops : Array Oper} {rest : List Oper} {op : Oper} {a : Act} {w : World} {Q : Exit → Act → World → Prop} (hgd : op.guard = none) (p q : Operand) (ho : op.op = .makeSlice 64 p q) (z : Int) (hx : a.eval p = .int .i64 z) (hy : a.eval q = .int .i64 z) (n : Nat) (cs : Array Value)
    (hrun : Hid (∀ u, (Instr.makeSlice 64 (.int .i64 z) (.int .i64 z)).run Tryz.prog u = .ok (.slice (some ⟨u.heap.size, 0, none⟩) n n) (u.alloc (.cells cs 5))))
    (h : wpList Tryz.prog ops Q rest (a.put op.dst (.slice (some ⟨w.heap.size, 0, none⟩) n n)) (w.alloc (.cells cs 5))) : wpList Tryz.prog ops Q (op :: rest) a w := by
  refine wpList_plain hgd fun K hK => ?_
  unfold Oper.wp execOp
  simp only [ho, hx, hy, hrun.out w, Sem.run_bind, Sem.run_pure, Result.andThen_ok]
  exact hK _ _ h
theorem wpList_conv_str {ops : Array Oper} {rest : List Oper} {op : Oper} {a : Act} {w : World} {Q : Exit → Act → World → Prop} (hgd : op.guard = none) (x : Operand) (ho : op.op = .convert 64 9 x) (g n : Nat) (hx : a.eval x = .slice (some ⟨g, 0, none⟩) n n) (d : ByteArray)
    (hrun : (convert 64 9 (.slice (some ⟨g, 0, none⟩) n n)).run Tryz.prog w = .ok (.string d) w)
    (h : wpList Tryz.prog ops Q rest (a.put op.dst (.string d)) w) : wpList Tryz.prog ops Q (op :: rest) a w := by
  refine wpList_plain hgd fun K hK => ?_
  unfold Oper.wp execOp
  simp only [ho, hx, hrun, Sem.run_bind, Sem.run_pure, Result.andThen_ok]
  exact hK _ _ h
theorem wpList_mk_u32 {ops : Array Oper} {rest : List Oper} {op : Oper} {a : Act} {w : World} {Q : Exit → Act → World → Prop} (hgd : op.guard = none) (p q : Operand) (ho : op.op = .makeSlice 29 p q) (z : Int) (hx : a.eval p = .int .i64 z) (hy : a.eval q = .int .i64 z) (n : Nat) (cs : Array Value)
    (hrun : Hid (∀ u, (Instr.makeSlice 29 (.int .i64 z) (.int .i64 z)).run Tryz.prog u = .ok (.slice (some ⟨u.heap.size, 0, none⟩) n n) (u.alloc (.cells cs 22))))
    (h : wpList Tryz.prog ops Q rest (a.put op.dst (.slice (some ⟨w.heap.size, 0, none⟩) n n)) (w.alloc (.cells cs 22))) : wpList Tryz.prog ops Q (op :: rest) a w := by
  refine wpList_plain hgd fun K hK => ?_
  unfold Oper.wp execOp
  simp only [ho, hx, hy, hrun.out w, Sem.run_bind, Sem.run_pure, Result.andThen_ok]
  exact hK _ _ h
def z32 : List Nat := [0, 0, 0, 0, 0, 0, 0, 0, 0, 0, 0, 0, 0, 0, 0, 0, 0, 0, 0, 0, 0, 0, 0, 0, 0, 0, 0, 0, 0, 0, 0, 0]
/-- a path with a full list of clusters -/
def pclu (p : Pth) (n : Nat) : Pth := { p with a := { p.a with kA := some ⟨n, 0, none⟩, clus := z32, kC := 32 } }
theorem k32_at : ∀ i, i < 32 → K32[i]? = some (.int .u32 0) := by
  intro i hi
  simp [K32, madeCells, hi, Nat.mod_one]
theorem z32_at : ∀ (i : Nat) (cs : List Value), (nums .u32 z32)[i]? = some cs → i < 32 ∧ cs = [.int .u32 0] := by
  intro i cs h
  have hl : (nums .u32 z32).length = 32 := rfl
  have hi : i < 32 := by rw [← hl]; exact (List.getElem?_eq_some_iff.1 h).1
  refine ⟨hi, ?_⟩
  obtain ⟨x, hx, rfl⟩ := List.mem_map.1 (List.mem_of_getElem? h)
  have hall : ∀ x ∈ z32, x = 0 := by decide
  rw [hall x hx]
  rfl
theorem pclu_ok {W : World} {p : Pth} {n : Nat} (h : PthOk W p) (h1 : CellsAt W n K32 22) : PthOk W (pclu p n) :=
  { h with
    a := { h.a with
      krd := fun _ => ⟨n, 0, rfl, h1.lt, fun i cs hi j u hu => by
        obtain ⟨h3, rfl⟩ := z32_at i cs hi
        match j, hu with
        | 0, hu =>
          obtain rfl : Value.int .u32 0 = u := Option.some.inj hu
          rw [show 0 + i * 1 + 0 = i by omega, h1.c]
          exact k32_at i h3
        | j + 1, hu => cases hu⟩
      klen := Nat.le_refl _
      kcap := show (32 : Nat) ≤ maxLen by decide
      kfit := fun m hm => by
        have hall : ∀ c ∈ z32, c < 4294967296 := by decide
        exact hall m hm }
    sz := { h.sz with k := show (32 : Nat) * 4 ≤ 140737488351232 by decide } }
/-- a path that is none -/
def zPth : Pth := ⟨⟨0, 0, ⟨#[]⟩, 0, 0, 0⟩, noAtr, 0, ⟨#[]⟩, 0, 0, ⟨#[]⟩, ⟨#[]⟩, false⟩
theorem noAtr_ok (w : World) : AtrOk w noAtr := {
    prd := rd_none _ _
    segs := fun s h => by cases h
    plen := Nat.le_refl _
    pcap := show (0 : Nat) ≤ maxLen by decide
    next := show (0 : Nat) ≤ 9223372036854775807 by decide
    mrd := rd_none _ _
    mlen := Nat.le_refl _
    mcap := show (0 : Nat) ≤ maxLen by decide
    mfit := fun n h => by cases h
    xrd := rd_none _ _
    xlen := Nat.le_refl _
    xcap := show (0 : Nat) ≤ maxLen by decide
    xfit := fun n h => by cases h
    lrd := rd_none _ _
    llen := Nat.le_refl _
    lcap := show (0 : Nat) ≤ maxLen by decide
    lfit := fun n h => by cases h
    krd := rd_none _ _
    klen := Nat.le_refl _
    kcap := show (0 : Nat) ≤ maxLen by decide
    kfit := fun n h => by cases h
    ofit := by decide
    nfit := by decide }
theorem zPth_ok (w : World) : PthOk w zPth := ⟨⟨by decide, by decide, by decide, by decide, by decide, by decide⟩, noAtr_ok w, ⟨by decide, by decide, by decide, by decide, by decide, by decide, by decide⟩, by decide, by decide, by decide⟩
def c26 : AtC := ⟨0, [(3, [65000]), (2, [65001])], ⟨#[10, 0, 0, 2]⟩, true, 5, true, 100, false, 0, 0, [], [], [], false, 0, []⟩
def c27 : AtC := ⟨0, [(2, [100, 65001])], ⟨#[10, 0, 0, 1]⟩, false, 0, false, 0, false, 0, 0, [], [], [], false, 0, []⟩
theorem told_K26 (b : Nat) (mm : Pr) (c : Nat) (h : mm = { (mkPr ⟨#[109]⟩ 65005 c) with confed := true }) : (toldF gC (mkPth 2 b) mm).2 = true := by
  subst h
  kernel_rfl
theorem told_26 (b : Nat) (mm : Pr) (c : Nat) (h : mm = { (mkPr ⟨#[109]⟩ 65005 c) with confed := true }) : (toldF gC (mkPth 2 b) mm).1 = c26 := by
  subst h
  kernel_rfl
theorem told_K27 (b c : Nat) : (toldF gC (mkPth 2 b) (mkPr ⟨#[98]⟩ 65002 c)).2 = true := by kernel_rfl
theorem told_27 (b c : Nat) : (toldF gC (mkPth 2 b) (mkPr ⟨#[98]⟩ 65002 c)).1 = c27 := by kernel_rfl
theorem told_K30 (q : Pth) (b n : Nat) (h : q = pcom (mkPth 2 b) n 4294967043) (mm : Pr) (c : Nat) (h2 : mm = { (mkPr ⟨#[109]⟩ 65005 c) with confed := true }) : (toldF gC q mm).2 = false := by
  subst h
  subst h2
  kernel_rfl
theorem attrs_K33 (q : Pth) (b n : Nat) (h : q = pclu (mkPth 4 b) n) (cl : Pr) (c : Nat) (h2 : cl = { (mkPr ⟨#[101]⟩ 65000 c) with client := true }) : (attrsF g0 q cl).2 = 3 := by
  subst h
  subst h2
  kernel_rfl
theorem attrs_K34 (cl : Pr) (c : Nat) (h2 : cl = { (mkPr ⟨#[101]⟩ 65000 c) with client := true }) : (attrsF g0 zPth cl).2 = 2 := by
  subst h2
  kernel_rfl
def g00 : Cfg := ⟨0, 0, 0, 0, ⟨#[]⟩⟩
theorem next_v (v : Pth) (b : Nat) {c : Nat} (h : v = pv6 (mkPth 2 b)) : nextF g0 v (mkPr ⟨#[98]⟩ 65002 c) = ⟨#[0, 0, 0, 0, 0, 0, 0, 0, 0, 0, 255, 255, 10, 0, 0, 1]⟩ := by
  subst h
  kernel_rfl
theorem next_s (b : Nat) (t : Pr) (c : Nat) (h : t = { (mkPr ⟨#[99]⟩ 65000 c) with selfNext := true }) : nextF g0 (mkPth 2 b) t = ⟨#[10, 0, 0, 1]⟩ := by
  subst h
  kernel_rfl
theorem next_0 {b c : Nat} : nextF g00 (mkPth 2 b) (mkPr ⟨#[98]⟩ 1 c) = ⟨#[]⟩ := by kernel_rfl
theorem seg_1 {V : World} {k : Int} {b n : Nat} (h1 : CellsAt V b #[.int .u32 (n : Nat)] 22) (hn : n < 4294967296) (hk : -9223372036854775808 ≤ k ∧ k ≤ 9223372036854775807) : SgOk V ⟨k, some ⟨b, 0, none⟩, [n], 1⟩ :=
  ⟨fun _ => ⟨b, 0, rfl, h1.lt, fun i cs hi j u hu => by
    match i, hi with
    | 0, hi =>
      obtain rfl : [Value.int .u32 ((n : Nat) : Int)] = cs := Option.some.inj hi
      rw [show 0 + 0 * 1 + j = j by omega, h1.c, ← Array.getElem?_toList]
      exact hu
    | i + 1, hi => cases hi⟩, Nat.le_refl _, show (1 : Nat) ≤ maxLen by decide, fun m hm => by
      obtain rfl := List.mem_singleton.1 hm
      exact hn, hk⟩
theorem segs_two {V : World} {a b c : Nat} (h1 : CellsAt V a #[.int .u32 (65000 : Nat)] 22) (h2 : CellsAt V b #[.int .u32 (65001 : Nat)] 22) (h3 : CellsAt V c #[.int .i64 3, .slice (some ⟨a, 0, none⟩) 1 1, .int .i64 2, .slice (some ⟨b, 0, none⟩) 1 1] 67) : SegsOk V (some ⟨c, 0, none⟩) 2 [⟨3, some ⟨a, 0, none⟩, [65000], 1⟩, ⟨2, some ⟨b, 0, none⟩, [65001], 1⟩] := by
  refine ⟨fun _ => ⟨c, 0, rfl, h3.lt, fun i cs hi j u hu => ?_⟩, fun s hm => ?_, Nat.le_refl _, by decide⟩
  · match i, hi with
    | 0, hi =>
      obtain rfl : [Value.int .i64 3, .slice (some ⟨a, 0, none⟩) 1 1] = cs := Option.some.inj hi
      match j, hu with
      | 0, hu => rw [← hu]; exact h3.c 0
      | 1, hu => rw [← hu]; exact h3.c 1
      | j + 2, hu => cases hu
    | 1, hi =>
      obtain rfl : [Value.int .i64 2, .slice (some ⟨b, 0, none⟩) 1 1] = cs := Option.some.inj hi
      match j, hu with
      | 0, hu => rw [← hu]; exact h3.c 2
      | 1, hu => rw [← hu]; exact h3.c 3
      | j + 2, hu => cases hu
    | i + 2, hi => cases hi
  · rcases List.mem_cons.1 hm with rfl | hm
    · exact seg_1 h1 (by decide) (by decide)
    · obtain rfl := List.mem_singleton.1 hm
      exact seg_1 h2 (by decide) (by decide)
theorem segs_27 {l : List Sg} (h : l.map Sg.c = [(2, [100, 65001])]) : ∃ A c, l = [⟨2, A, [100, 65001], c⟩] := by
  rcases l with _ | ⟨⟨k, A, as_, c⟩, _ | ⟨t, r⟩⟩
  · cases h
  · have h1 : (k, as_) = ((2 : Int), [100, 65001]) := (List.cons.inj h).1
    obtain ⟨rfl, rfl⟩ := Prod.mk.inj h1
    exact ⟨A, c, rfl⟩
  · have h1 : List.map Sg.c (t :: r) = [] := (List.cons.inj h).2
    cases h1
theorem wp_region_eqD {P : Program} {id : Nat} {ops : Array Oper} {Q : Exit → Act → World → Prop} {a : Act} {w : World} (l : List Oper) (h : ops = l.toArray) (H : (Code.region id l.toArray true).wp P Q a w) : (Code.region id ops true).wp P Q a w := by
  subst h
  exact H
theorem x24_pref {W : World} {k : Nat} {x : Atr} (h : CellsAt W k x.ar 33) (hc : x.c = c26) : W.cell? ⟨k, 6, none⟩ = some (.int .u32 100) := by
  rw [show (100 : Int) = ((x.pref : Nat) : Int) from congrArg (fun n : Nat => (n : Int)) (congrArg AtC.pref hc).symm]
  exact (h.c 6).trans rfl
theorem x26_shape {W : World} {x : Atr} (h : AtrOk W x) (hc : x.c = c27) : ∃ pb po sb so sc, x.segs = [⟨2, some ⟨sb, so, none⟩, [100, 65001], sc⟩] ∧ x.pA = some ⟨pb, po, none⟩ ∧ (1 ≤ x.pC ∧ x.pC ≤ 9223372036854775807) ∧ 2 ≤ sc ∧ sc ≤ 9223372036854775807 := by
  obtain ⟨sA, sc, hs⟩ := segs_27 (congrArg AtC.path hc)
  obtain ⟨pb, po, hpA, hpl, hpc⟩ := h.prd (by rw [hs]; exact Nat.zero_lt_one)
  have hg := h.segs ⟨2, sA, [100, 65001], sc⟩ (by rw [hs]; exact List.mem_singleton.2 rfl)
  obtain ⟨sb, so, hsA, hsl, hsc⟩ := hg.rd (by show (0 : Nat) < 2; omega)
  have hsA2 : sA = some ⟨sb, so, none⟩ := hsA
  subst hsA2
  have d4 : 1 ≤ x.pC := by have h := h.plen; rw [hs] at h; exact h
  exact ⟨pb, po, sb, so, sc, hs, hpA, ⟨d4, h.pcap⟩, hg.len, hg.cap⟩
theorem x26_path {W : World} {k pb po sb so sc : Nat} {x : Atr} (h : CellsAt W k x.ar 33) (hs : x.segs = [⟨2, some ⟨sb, so, none⟩, [100, 65001], sc⟩]) (hp : x.pA = some ⟨pb, po, none⟩) : W.cell? ⟨k, 1, none⟩ = some (.slice (some ⟨pb, po, none⟩) 1 x.pC) := by
  have h2 : W.cell? ⟨k, 1, none⟩ = some (.slice x.pA x.segs.length x.pC) := (h.c 1).trans rfl
  rw [hs, hp] at h2
  exact h2
theorem x26_at {W : World} {pb po sb so sc : Nat} {x : Atr} (h : AtrOk W x) (hs : x.segs = [⟨2, some ⟨sb, so, none⟩, [100, 65001], sc⟩]) (hp : x.pA = some ⟨pb, po, none⟩) : W.cell? ⟨pb, po + 1, none⟩ = some (.slice (some ⟨sb, so, none⟩) 2 sc) ∧ W.cell? ⟨sb, so, none⟩ = some (.int .u32 100) := by
  obtain ⟨pb', po', hpA, hpl, hpc⟩ := h.prd (by rw [hs]; exact Nat.zero_lt_one)
  rw [hp] at hpA
  cases hpA
  have hg := h.segs ⟨2, some ⟨sb, so, none⟩, [100, 65001], sc⟩ (by rw [hs]; exact List.mem_singleton.2 rfl)
  obtain ⟨sb', so', hsA, hsl, hsc⟩ := hg.rd (by show (0 : Nat) < 2; omega)
  cases hsA
  exact ⟨hpc 0 _ (by rw [hs]; rfl) 1 _ rfl, hsc 0 [.int .u32 100] rfl 0 _ rfl⟩
theorem same26 {W : World} {x : Atr} {a b c : Nat} (h : AtrOk W x) (hc : x.c = c26) (h1 : CellsAt W a #[.int .u32 (65000 : Nat)] 22) (h2 : CellsAt W b #[.int .u32 (65001 : Nat)] 22) (h3 : CellsAt W c #[.int .i64 3, .slice (some ⟨a, 0, none⟩) 1 1, .int .i64 2, .slice (some ⟨b, 0, none⟩) 1 1] 67) :
    Calls Tryz.prog 24 #[.slice x.pA x.segs.length x.pC, .slice (some ⟨c, 0, none⟩) 2 2] W fun e w' => e = .returned (.bool true) ∧ Below W.heap.size W w' := by
  have h4 := psame_any x.pA (some ⟨c, 0, none⟩) x.pC 2 x.segs [⟨3, some ⟨a, 0, none⟩, [65000], 1⟩, ⟨2, some ⟨b, 0, none⟩, [65001], 1⟩] W h.path (segs_two h1 h2 h3)
  rw [show x.segs.map Sg.c = [(3, [65000]), (2, [65001])] from congrArg AtC.path hc] at h4
  exact h4
end Go.Proofs.YtojiieghjhjoaaaGreat
