/-
  Several texts in one.
-/
import Derived.Test.YtkcojblflebomaaGreatNR17
import Derived.Deep.MidRow
import Derived.BigRegion
set_option linter.unusedVariables false
set_option linter.unusedSimpArgs false
namespace Go.Proofs.YtkcojblflebomaaGreat
open Go.RowKit Go.MapKept Go.Shelf
open Go.Lib hiding intOf

theorem and128 (f : UInt8) : bits .and .u8 (f.toNat : Int) 128 = ((f &&& 128).toNat : Int) := by
  have h : ∀ x : Fin 256, bits .and .u8 (x.val : Int) 128 = ((UInt8.ofNat x.val &&& 128).toNat : Int) := by decide +kernel
  have := h ⟨f.toNat, f.toNat_lt⟩
  simpa using this
theorem and192 (f : UInt8) : bits .and .u8 (f.toNat : Int) 192 = ((f &&& 192).toNat : Int) := by
  have h : ∀ x : Fin 256, bits .and .u8 (x.val : Int) 192 = ((UInt8.ofNat x.val &&& 192).toNat : Int) := by decide +kernel
  have := h ⟨f.toNat, f.toNat_lt⟩
  simpa using this
theorem row_fn {t : Nat} {b wr : Int} {i : Bool} {f : FuncId} (h : rowF t = some (b, wr, i, f)) : ∀ (x y z : Value) (W : World), (callFunc f #[x, y, z]).run Tryz.prog W = .ok (.enter f #[x, y, z]) W := by
  unfold rowF at h
  by_cases h1 : t = 1
  · rw [if_pos h1] at h
    simp only [Option.some.injEq, Prod.mk.injEq] at h
    obtain ⟨_, _, _, rfl⟩ := h
    intro x y z W
    kernel_rfl
  rw [if_neg h1] at h
  by_cases h2 : t = 2
  · rw [if_pos h2] at h
    simp only [Option.some.injEq, Prod.mk.injEq] at h
    obtain ⟨_, _, _, rfl⟩ := h
    intro x y z W
    kernel_rfl
  rw [if_neg h2] at h
  by_cases h3 : t = 3
  · rw [if_pos h3] at h
    simp only [Option.some.injEq, Prod.mk.injEq] at h
    obtain ⟨_, _, _, rfl⟩ := h
    intro x y z W
    kernel_rfl
  rw [if_neg h3] at h
  by_cases h4 : t = 4
  · rw [if_pos h4] at h
    simp only [Option.some.injEq, Prod.mk.injEq] at h
    obtain ⟨_, _, _, rfl⟩ := h
    intro x y z W
    kernel_rfl
  rw [if_neg h4] at h
  by_cases h5 : t = 5
  · rw [if_pos h5] at h
    simp only [Option.some.injEq, Prod.mk.injEq] at h
    obtain ⟨_, _, _, rfl⟩ := h
    intro x y z W
    kernel_rfl
  rw [if_neg h5] at h
  by_cases h6 : t = 6
  · rw [if_pos h6] at h
    simp only [Option.some.injEq, Prod.mk.injEq] at h
    obtain ⟨_, _, _, rfl⟩ := h
    intro x y z W
    kernel_rfl
  rw [if_neg h6] at h
  by_cases h7 : t = 7
  · rw [if_pos h7] at h
    simp only [Option.some.injEq, Prod.mk.injEq] at h
    obtain ⟨_, _, _, rfl⟩ := h
    intro x y z W
    kernel_rfl
  rw [if_neg h7] at h
  by_cases h8 : t = 8
  · rw [if_pos h8] at h
    simp only [Option.some.injEq, Prod.mk.injEq] at h
    obtain ⟨_, _, _, rfl⟩ := h
    intro x y z W
    kernel_rfl
  rw [if_neg h8] at h
  by_cases h9 : t = 9
  · rw [if_pos h9] at h
    simp only [Option.some.injEq, Prod.mk.injEq] at h
    obtain ⟨_, _, _, rfl⟩ := h
    intro x y z W
    kernel_rfl
  rw [if_neg h9] at h
  by_cases h10 : t = 10
  · rw [if_pos h10] at h
    simp only [Option.some.injEq, Prod.mk.injEq] at h
    obtain ⟨_, _, _, rfl⟩ := h
    intro x y z W
    kernel_rfl
  rw [if_neg h10] at h
  by_cases h16 : t = 16
  · rw [if_pos h16] at h
    simp only [Option.some.injEq, Prod.mk.injEq] at h
    obtain ⟨_, _, _, rfl⟩ := h
    intro x y z W
    kernel_rfl
  rw [if_neg h16] at h
  by_cases h32 : t = 32
  · rw [if_pos h32] at h
    simp only [Option.some.injEq, Prod.mk.injEq] at h
    obtain ⟨_, _, _, rfl⟩ := h
    intro x y z W
    kernel_rfl
  rw [if_neg h32] at h
  cases h
def noC : AtC := noAtr.c
/-- what Read answers -/
def ReadPost (base : Nat) (r : AtC × Vd) (w' : World) (e : Ending) : Prop :=
  ∃ a : Atr, e = .returned (.tuple #[a.v, .agg r.2.ar]) ∧ AtO w' base a ∧ a.c = (if 2 ≤ r.2.act then noC else r.1)
theorem rs_start (w V : World) (hV : V = ((((w.alloc (.cells noAtr.ar 40)).alloc (.cells (Vd.mk 0 0 0).ar 42)).alloc (.cells noAtr.ar 40)).alloc (.cells (Vd.mk 0 0 0).ar 42)).alloc (.cells (metA []) 76)) : RS w w.heap.size V [] noC ⟨0, 0, 0⟩ := by
  subst hV
  have e1 : (w.alloc (.cells noAtr.ar 40)).heap.size = w.heap.size + 1 := by simp
  have e2 : ((w.alloc (.cells noAtr.ar 40)).alloc (.cells (Vd.mk 0 0 0).ar 42)).heap.size = w.heap.size + 1 + 1 := by simp
  have e3 : (((w.alloc (.cells noAtr.ar 40)).alloc (.cells (Vd.mk 0 0 0).ar 42)).alloc (.cells noAtr.ar 40)).heap.size = w.heap.size + 1 + 1 + 1 := by simp
  have e4 : ((((w.alloc (.cells noAtr.ar 40)).alloc (.cells (Vd.mk 0 0 0).ar 42)).alloc (.cells noAtr.ar 40)).alloc (.cells (Vd.mk 0 0 0).ar 42)).heap.size = w.heap.size + 1 + 1 + 1 + 1 := by simp
  refine ⟨((((CellsAt.new _ _ _).alloc _).alloc _).alloc _).alloc _, ?_, ?_, ?_, ?_, ?_⟩
  · have h := CellsAt.new (w.alloc (.cells noAtr.ar 40)) (Vd.mk 0 0 0).ar 42
    rw [e1] at h
    exact ((h.alloc _).alloc _).alloc _
  · have h := CellsAt.new ((w.alloc (.cells noAtr.ar 40)).alloc (.cells (Vd.mk 0 0 0).ar 42)) noAtr.ar 40
    rw [e2] at h
    exact ⟨noAtr, (h.alloc _).alloc _, noAtr_own _ _, rfl, noAtr_kn⟩
  · have h := CellsAt.new (((w.alloc (.cells noAtr.ar 40)).alloc (.cells (Vd.mk 0 0 0).ar 42)).alloc (.cells noAtr.ar 40)) (Vd.mk 0 0 0).ar 42
    rw [e3] at h
    exact h.alloc _
  · have h := CellsAt.new ((((w.alloc (.cells noAtr.ar 40)).alloc (.cells (Vd.mk 0 0 0).ar 42)).alloc (.cells noAtr.ar 40)).alloc (.cells (Vd.mk 0 0 0).ar 42)) (metA []) 76
    rw [e4] at h
    exact h
  · exact (((((Below.refl _ _).alloc (Nat.le_refl _) _).alloc (by simp) _).alloc (by simp; omega) _).alloc (by simp; omega) _).alloc (by simp; omega) _
theorem verdict_size : (Tryz.prog.info? 42).map (·.size) = some 3 := by kernel_rfl
theorem verdict_under : ∃ fs, Tryz.prog.underlying 42 = some (.struct fs) := ⟨_, Tryz.underlying42⟩
theorem yields_attrs {ops : Array Oper} {S : World → Prop} {o : Oper} {a : Act} (hw : Region.wanted o (yielded ops a.tmps) = true) (src : Operand) (ho : o.op = .load 40 src)
    (b : Nat) (hx : a.eval src = .pointer (some ⟨b, 0, none⟩)) (p : Atr) (hS : ∀ w, S w → CellsAt w b p.ar 40) : YieldsIf Tryz.prog ops S o (.agg p.ar) a := by
  obtain ⟨fs, hu⟩ := attrs_under
  exact yieldsIf_load_mid hw 40 src ho b 0 hx p.ar.toList _ (fun w h => (hS w h).range) hu rfl (by rw [attrs_size]; rfl)
theorem yields_verdict {ops : Array Oper} {S : World → Prop} {o : Oper} {a : Act} (hw : Region.wanted o (yielded ops a.tmps) = true) (src : Operand) (ho : o.op = .load 42 src)
    (b : Nat) (hx : a.eval src = .pointer (some ⟨b, 0, none⟩)) (v : Vd) (hS : ∀ w, S w → VdAt w b v) : YieldsIf Tryz.prog ops S o (.agg v.ar) a := by
  obtain ⟨fs, hu⟩ := verdict_under
  exact yieldsIf_load_mid hw 42 src ho b 0 hx v.ar.toList _ (fun w h => CellsAt.range (hS w h)) hu rfl (by rw [verdict_size]; rfl)
theorem wp_store_attrs {op : Oper} {a : Act} {w : World} {K : Act → World → Prop} {Q : Exit → Act → World → Prop} (x y : Operand) (ho : op.op = .store 40 x y) (b : Nat) (hx : a.eval x = .pointer (some ⟨b, 0, none⟩)) (p : Atr) (hy : a.eval y = .agg p.ar) (q : Atr) (hc : CellsAt w b q.ar 40)
    (h : K (a.put op.dst undef) (w.setRow b p.ar)) : op.wp Tryz.prog a w K Q :=
  wp_store_row 40 x y ho b p.ar hx hy 40 q.ar hc (by rw [attrs_size]; rfl) rfl (Array.all_eq_true_iff_forall_mem.2 (fun u hu => by
    simp only [Atr.ar, List.mem_toArray, List.mem_cons, List.not_mem_nil, or_false] at hu
    rcases hu with rfl | rfl | rfl | rfl | rfl | rfl | rfl | rfl | rfl | rfl | rfl | rfl | rfl | rfl | rfl | rfl <;> rfl)) h
theorem wp_store_verdict {op : Oper} {a : Act} {w : World} {K : Act → World → Prop} {Q : Exit → Act → World → Prop} (x y : Operand) (ho : op.op = .store 42 x y) (b : Nat) (hx : a.eval x = .pointer (some ⟨b, 0, none⟩)) (p : Vd) (hy : a.eval y = .agg p.ar) (q : Vd) (hc : VdAt w b q)
    (h : K (a.put op.dst undef) (w.setRow b p.ar)) : op.wp Tryz.prog a w K Q :=
  wp_store_row 42 x y ho b p.ar hx hy 42 q.ar hc (by rw [verdict_size]; rfl) rfl (Array.all_eq_true_iff_forall_mem.2 (fun u hu => by
    simp only [Vd.ar, List.mem_toArray, List.mem_cons, List.not_mem_nil, or_false] at hu
    rcases hu with rfl | rfl | rfl <;> rfl)) h
theorem CellsAt.setRow {w : World} {b : Nat} {cs : Array Value} {T : TypeId} (h : CellsAt w b cs T) (ds : Array Value) : CellsAt (w.setRow b ds) b ds T := setRow_heap w b _ _ _ _ h
theorem grown_setRow (w : World) (b : Nat) (ds : Array Value) : w.grownBy (w.setRow b ds) (some b) :=
  ⟨rfl, rfl, rfl, by rw [setRow_size]; exact Nat.le_refl _, fun i h1 h2 => setRow_other w b i ds (fun e => h2 (by rw [e]))⟩
theorem results_cells2' {fn : Func} {p u : Tmp} {t s : TypeId} (h : fn.results = #[.cell p t, .cell u s]) (tmps : Array Value) (P : Program) (w : World) :
    (results fn tmps).run P w =
      ((asAddr (tmps.getD p undef)).run P w).andThen fun a w₁ => ((loadVar t a).run P w₁).andThen fun v w₂ => ((asAddr (tmps.getD u undef)).run P w₂).andThen fun a w₃ => ((loadVar s a).run P w₃).andThen fun x w₄ => .ok (.tuple #[v, x]) w₄ := by
  simp only [results, h]
  simp [Sem.run_bind, Result.andThen]
theorem results_read {fn : Func} (hf : fn.results = #[.cell 6 40, .cell 7 42]) {w : World} {b c : Nat} {a : Atr} {v : Vd} {tmps : Array Value} (h6 : tmps.getD 6 undef = .pointer (some ⟨b, 0, none⟩)) (h7 : tmps.getD 7 undef = .pointer (some ⟨c, 0, none⟩)) (ha : CellsAt w b a.ar 40) (hv : VdAt w c v) :
    (results fn tmps).run Tryz.prog w = .ok (.tuple #[a.v, .agg v.ar]) w := by
  obtain ⟨fs, hu⟩ := attrs_under
  obtain ⟨gs, hv2⟩ := verdict_under
  rw [results_cells2' hf, h6, h7]
  simp only [asAddr, Sem.run_pure, Result.andThen_ok]
  rw [run_loadVar_mid w b 0 _ a.ar.toList _ ha.range hu rfl (by rw [attrs_size]; rfl)]
  simp only [Result.andThen_ok]
  rw [run_loadVar_mid w c 0 _ v.ar.toList _ (CellsAt.range hv) hv2 rfl (by rw [verdict_size]; rfl)]
  rfl
theorem AtO.lower {w : World} {b b' : Nat} {a : Atr} (h : AtO w b a) (hb : b' ≤ b) : AtO w b' a :=
  { h with path := ⟨OwnM.lower h.path.own hb, fun s hs => ⟨OwnM.lower (h.path.as_ s hs).1 hb, (h.path.as_ s hs).2⟩⟩, comms := OwnM.lower h.comms hb, exts := OwnM.lower h.exts hb, larges := OwnM.lower h.larges hb, clus := OwnM.lower h.clus hb }
/-- where Read ends -/
structure RE (w0 : World) (s : Nat) (w : World) (a : Atr) (v : Vd) : Prop where
  ac : CellsAt w (s + 1 + 1) a.ar 40
  vc : VdAt w (s + 1 + 1 + 1) v
  r1 : ∃ q : Atr, CellsAt w s q.ar 40
  r2 : ∃ q : Vd, VdAt w (s + 1) q
  o : AtO w (s + 1 + 1 + 1) a
  b : Below s w0 w
theorem RE.drew {w0 w : World} {s : Nat} {a : Atr} {v : Vd} (h : RE w0 s w a v) (n : Nat) : RE w0 s (w.drewN n) a v :=
  ⟨h.ac.drew n, CellsAt.drew h.vc n, by obtain ⟨q, hq⟩ := h.r1; exact ⟨q, hq.drew n⟩, by obtain ⟨q, hq⟩ := h.r2; exact ⟨q, CellsAt.drew hq n⟩, h.o.below (below_drewN (Below.refl _ _) n), below_drewN h.b n⟩
theorem RE.store1 {w0 w : World} {s : Nat} {a : Atr} {v : Vd} (h : RE w0 s w a v) (p : Atr) : RE w0 s (w.setRow s p.ar) a v := by
  have hg := grown_setRow w s p.ar
  refine ⟨h.ac.row hg (by omega), CellsAt.row h.vc hg (by omega), ?_, ?_, h.o.keep (fun i h1 h2 => hg.block i h2 (fun e => by injection e with e; omega)), h.b.grown hg (Nat.le_of_lt (by have := h.ac.lt; omega)) (fun k hk => by cases hk; omega)⟩
  · obtain ⟨q, hq⟩ := h.r1
    exact ⟨p, hq.setRow p.ar⟩
  · obtain ⟨q, hq⟩ := h.r2
    exact ⟨q, CellsAt.row hq hg (by omega)⟩
theorem RE.store2 {w0 w : World} {s : Nat} {a : Atr} {v : Vd} (h : RE w0 s w a v) (p : Vd) : RE w0 s (w.setRow (s + 1) p.ar) a v := by
  have hg := grown_setRow w (s + 1) p.ar
  refine ⟨h.ac.row hg (by omega), CellsAt.row h.vc hg (by omega), ?_, ?_, h.o.keep (fun i h1 h2 => hg.block i h2 (fun e => by injection e with e; omega)), h.b.grown hg (Nat.le_of_lt (by have := h.ac.lt; omega)) (fun k hk => by cases hk; omega)⟩
  · obtain ⟨q, hq⟩ := h.r1
    exact ⟨q, hq.row hg (by omega)⟩
  · obtain ⟨q, hq⟩ := h.r2
    exact ⟨p, CellsAt.setRow hq p.ar⟩
section
variable {ops : Array Oper} {Q : Exit → Act → World → Prop}
end
set_option maxRecDepth 100000 in
set_option maxHeartbeats 16000000 in
theorem read_any (T : Nat → ByteArray → Bool → AtC → AtC × Bool) (A : Option Addr) (cap : Nat) (L : List Rw) (four internal : Bool) (w : World) (h : RwsOk w A cap L) (hsz : ∀ r ∈ L, r.v.size ≤ 140737488351232)
    (hT : ∀ x ∈ L, ∀ b wr i f, rowF x.t.toNat = some (b, wr, i, f) → TakesT T x.t.toNat f) :
    Calls Tryz.prog 19 #[.slice A L.length cap, .bool four, .bool internal] w fun e w' => ReadPost w.heap.size (readF T four internal [] noC ⟨0, 0, 0⟩ L) w' e ∧ Below w.heap.size w w' := by
  have HR := Lib.hid h
  have hl := h.len
  have hc := h.cap
  have HSZ := Lib.hid hsz
  have HTK := Lib.hid hT
  have HROW := Lib.hid row_any
  have HJ := Lib.hid judge_any
  clear h hsz hT
  generalize hres : readF T four internal [] noC ⟨0, 0, 0⟩ L = res
  have HRES := Lib.hid hres
  clear hres
  go_enter Tryz.func19, Tryz.ntmps19
  go_upto_region 5 with fail
  obtain ⟨V, hV⟩ : ∃ V, V = ((((w.alloc (.cells noAtr.ar 40)).alloc (.cells (Vd.mk 0 0 0).ar 42)).alloc (.cells noAtr.ar 40)).alloc (.cells (Vd.mk 0 0 0).ar 42)).alloc (.cells (metA []) 76) := ⟨_, rfl⟩
  have HS := Lib.hid (rs_start w V hV)
  rw [← metA_none] at hV
  change Code.wp _ _ _ _ (((((w.alloc (.cells noAtr.ar 40)).alloc (.cells (Vd.mk 0 0 0).ar 42)).alloc (.cells noAtr.ar 40)).alloc (.cells (Vd.mk 0 0 0).ar 42)).alloc (.cells Tryz.zeroCells76 76))
  rw [← hV]
  clear hV
  go_wp2_with fail
  go_loopw [20] (fun i wr => ∃ (k : Nat) (met : List UInt8) (c : AtC) (v : Vd), k ≤ L.length ∧ i = .int .i64 k ∧ Hid (RS w w.heap.size wr met c v) ∧ Hid (res = readF T four internal met c v (L.drop k)) ∧ Hid ((10 : UInt8) ∉ met → c.clus = [])) (fun i _ => L.length + 1 - (intOf i).toNat)
  case atStart => exact ⟨0, [], noC, ⟨0, 0, 0⟩, by omega, rfl, HS.out, HRES.out.symm, fun _ => rfl⟩
  case round =>
    clear HS HRES
    obtain ⟨k, met, c, v, hk, rfl, HRS, HRF, HKN⟩ := hrel
    by_cases hlt : k < L.length
    · skip
      obtain ⟨x, hx⟩ : ∃ x, L[k]? = some x := ⟨L[k], List.getElem?_eq_getElem hlt⟩
      have hmem := List.mem_of_getElem? hx
      obtain ⟨b, off, rfl, hb, c0, c1, c2⟩ := rw_at (HR.out.below HRS.out.b (Nat.le_refl _)).rd hx
      have HSZX : Hid ((x.v.size : Int) ≤ 140737488351232) := by show _ ≤ _; have := HSZ.out x hmem; omega
      have HTX := Lib.hid (HTK.out x hmem)
      have hdr : L.drop k = x :: L.drop (k + 1) := by
        rw [List.drop_eq_getElem_cons hlt]
        congr 1
        rw [List.getElem?_eq_getElem hlt] at hx
        exact Option.some.inj hx
      have HRF2 : Hid (res = readF T four internal (x.t :: met) (readStep T four internal met c v x).1 (readStep T four internal met c v x).2 (L.drop (k + 1))) := by
        show _ = _
        rw [HRF.out, hdr]
        rfl
      have HST : Hid (readStep T four internal met c v x = if x.t.toNat = 14 ∨ x.t.toNat = 15 then (if met.contains x.t = true then (c, judgeF v ⟨3, 3, 1⟩) else (c, v))
        else if met.contains x.t = true then (c, v)
        else match rowF x.t.toNat with
          | none => if x.f &&& 128 = 0 then (c, judgeF v ⟨3, 3, 2⟩) else (c, v)
          | some (b, wrong, inside, _) => if (inside && !internal) = true then (c, judgeF v ⟨1, 0, 0⟩)
            else if ((x.f &&& 192).toNat : Int) ≠ b then (c, judgeF v ⟨2, 0, 0⟩)
            else if (T x.t.toNat x.v four c).2 = true then ((T x.t.toNat x.v four c).1, v) else ((T x.t.toNat x.v four c).1, judgeF v ⟨wrong, 0, 0⟩)) := rfl
      clear hx hdr hmem HRF
      have HS1 : Hid (RS w w.heap.size (wr.alloc (.cells #[.int .u8 x.f.toNat, .int .u8 x.t.toNat, .string x.v] 32)) met c v) := HRS.out.below ((Below.refl _ _).alloc (Nat.le_refl _) _)
      have HX1 : Hid (CellsAt (wr.alloc (.cells #[.int .u8 x.f.toNat, .int .u8 x.t.toNat, .string x.v] 32)) wr.heap.size #[.int .u8 x.f.toNat, .int .u8 x.t.toNat, .string x.v] 32) := CellsAt.new _ _ _
      have hml := HRS.out.m.lt
      have cm := (HS1.out.m.c x.t.toNat).trans (metA_at met x.t)
      have fm := HS1.out.m.unfrozen x.t.toNat
      have HK1 : Hid ((10 : UInt8) ∉ x.t :: met → c.clus = []) := fun h => HKN.out (fun e => h (List.mem_cons_of_mem _ e))
      obtain ⟨again, hag⟩ : ∃ q, q = met.contains x.t := ⟨_, rfl⟩
      have HAG := Lib.hid hag
      rw [← hag] at cm HST
      have ht256 : (x.t.toNat : Int) < 256 := by have := x.t.toNat_lt; omega
      have HS2 : Hid (RS w w.heap.size ((wr.setCell ⟨w.heap.size + 1 + 1 + 1 + 1, x.t.toNat, none⟩ (.bool true)).alloc (.cells #[.int .u8 x.f.toNat, .int .u8 x.t.toNat, .string x.v] 32)) (x.t :: met) c v) := (HRS.out.meet x.t).below ((Below.refl _ _).alloc (Nat.le_refl _) _)
      have HX2 : Hid (CellsAt ((wr.setCell ⟨w.heap.size + 1 + 1 + 1 + 1, x.t.toNat, none⟩ (.bool true)).alloc (.cells #[.int .u8 x.f.toNat, .int .u8 x.t.toNat, .string x.v] 32)) wr.heap.size #[.int .u8 x.f.toNat, .int .u8 x.t.toNat, .string x.v] 32) := by
        have h := CellsAt.new (wr.setCell ⟨w.heap.size + 1 + 1 + 1 + 1, x.t.toNat, none⟩ (.bool true)) #[.int .u8 x.f.toNat, .int .u8 x.t.toNat, .string x.v] 32
        rwa [show (wr.setCell ⟨w.heap.size + 1 + 1 + 1 + 1, x.t.toNat, none⟩ (.bool true)).heap.size = wr.heap.size by simp [World.setCell]] at h
      clear hag
      go_upto_region 10 with fail
      clear HS1 HX1 cm fm c0 c1 c2 HRS
      generalize ((wr.setCell ⟨w.heap.size + 1 + 1 + 1 + 1, x.t.toNat, none⟩ (.bool true)).alloc (.cells #[.int .u8 x.f.toNat, .int .u8 x.t.toNat, .string x.v] 32)) = V2 at HS2 HX2 ⊢
      obtain ⟨d0, d1, d2⟩ := HX2.out.c3
      obtain ⟨g, hg⟩ : ∃ g, g = wr.heap.size := ⟨_, rfl⟩
      rw [← hg] at HX2 d0 d1 d2 hml ⊢
      have HGL := Lib.hid hml
      clear hg hml hb
      go_wp2_with fail
      refine (HROW.out x.t _).mono ?_
      rintro e V3 ⟨rfl, hb3⟩
      have HS3 : Hid (RS w w.heap.size V3 (x.t :: met) c v) := HS2.out.below hb3
      have HX3 : Hid (CellsAt V3 g #[.int .u8 x.f.toNat, .int .u8 x.t.toNat, .string x.v] 32) := HX2.out.below hb3 HX2.out.lt
      have hg3 := HX3.out.lt
      have HRS3 : Hid (w.heap.size + 1 + 1 < V3.heap.size) := by show _ < _; have := HS3.out.m.lt; omega
      clear hb3 HS2 HX2 d0 d1 d2
      by_cases h14 : x.t.toNat = 14 ∨ x.t.toNat = 15
      · have hrow : rowF x.t.toNat = none := by rcases h14 with h | h <;> (rw [h]; rfl)
        have H14 := Lib.hid h14
        (try rw [hrow])
        rw [show rowV (none) = .tuple #[.agg #[.int .u8 0, .int .i64 0, .bool false, .nilFunc], .bool false] from rfl]
        have HS4 : Hid (RS w w.heap.size (V3.alloc (.cells #[.int .u8 0, .int .i64 0, .bool false, .nilFunc] 79)) (x.t :: met) c v) := HS3.out.below ((Below.refl _ _).alloc (Nat.le_refl _) _)
        have HX4 : Hid (CellsAt (V3.alloc (.cells #[.int .u8 0, .int .i64 0, .bool false, .nilFunc] 79)) g #[.int .u8 x.f.toNat, .int .u8 x.t.toNat, .string x.v] 32) := HX3.out.alloc _
        have HB4 : Hid (CellsAt (V3.alloc (.cells #[.int .u8 0, .int .i64 0, .bool false, .nilFunc] 79)) V3.heap.size #[.int .u8 0, .int .i64 0, .bool false, .nilFunc] 79) := CellsAt.new _ _ _
        clear HS3 HX3
        obtain ⟨x0, x1, x2⟩ := HX4.out.c3
        obtain ⟨r0, r1, r2, r3⟩ := HB4.out.c4
        clear hrow
        rcases h14 with h | h
        · have z14 : ((x.t.toNat : Int) == 14) = true := beq_iff_eq.2 (by omega)
          have z15 : ((x.t.toNat : Int) == 15) = false := beq_eq_false_iff_ne.2 (by omega)
          clear h
          cases again with
          | true =>
            have HKK := HK1
            have HQ : Hid (readStep T four internal met c v x = (c, judgeF v ⟨3, 3, 1⟩)) := by show _ = _; rw [HST.out, if_pos H14.out]; rfl
            go_wp2_with fail
            refine (HJ.out _ v ⟨3, 3, 1⟩ _ HS4.out.v).mono ?_
            rintro e V6 ⟨rfl, hv6, hg6⟩
            have HS6 := Lib.hid (HS4.out.judge hg6 hv6)
            clear hv6 hg6
            go_wp2_with fail
            exact ⟨⟨k + 1, x.t :: met, c, judgeF v ⟨3, 3, 1⟩, by omega, by go_num, HS6.out, by rw [HRF2.out, HQ.out]; show _ = _; rfl, HKK.out⟩, by simp [intOf]; omega⟩
          | false =>
            have HKK := HK1
            have HQ : Hid (readStep T four internal met c v x = (c, v)) := by show _ = _; rw [HST.out, if_pos H14.out]; rfl
            go_wp2_with fail
            exact ⟨⟨k + 1, x.t :: met, c, v, by omega, by go_num, HS4.out, by rw [HRF2.out, HQ.out]; show _ = _; rfl, HKK.out⟩, by simp [intOf]; omega⟩
        · have z14 : ((x.t.toNat : Int) == 14) = false := beq_eq_false_iff_ne.2 (by omega)
          have z15 : ((x.t.toNat : Int) == 15) = true := beq_iff_eq.2 (by omega)
          clear h
          cases again with
          | true =>
            have HKK := HK1
            have HQ : Hid (readStep T four internal met c v x = (c, judgeF v ⟨3, 3, 1⟩)) := by show _ = _; rw [HST.out, if_pos H14.out]; rfl
            go_wp2_with fail
            refine (HJ.out _ v ⟨3, 3, 1⟩ _ HS4.out.v).mono ?_
            rintro e V6 ⟨rfl, hv6, hg6⟩
            have HS6 := Lib.hid (HS4.out.judge hg6 hv6)
            clear hv6 hg6
            go_wp2_with fail
            exact ⟨⟨k + 1, x.t :: met, c, judgeF v ⟨3, 3, 1⟩, by omega, by go_num, HS6.out, by rw [HRF2.out, HQ.out]; show _ = _; rfl, HKK.out⟩, by simp [intOf]; omega⟩
          | false =>
            have HKK := HK1
            have HQ : Hid (readStep T four internal met c v x = (c, v)) := by show _ = _; rw [HST.out, if_pos H14.out]; rfl
            go_wp2_with fail
            exact ⟨⟨k + 1, x.t :: met, c, v, by omega, by go_num, HS4.out, by rw [HRF2.out, HQ.out]; show _ = _; rfl, HKK.out⟩, by simp [intOf]; omega⟩
      · have z14 : ((x.t.toNat : Int) == 14) = false := beq_eq_false_iff_ne.2 (by omega)
        have z15 : ((x.t.toNat : Int) == 15) = false := beq_eq_false_iff_ne.2 (by omega)
        rw [if_neg h14] at HST
        clear h14
        cases hrow : rowF x.t.toNat with
        | none =>
          rw [hrow] at HST
          (try rw [hrow])
          rw [show rowV (none) = .tuple #[.agg #[.int .u8 0, .int .i64 0, .bool false, .nilFunc], .bool false] from rfl]
          have HS4 : Hid (RS w w.heap.size (V3.alloc (.cells #[.int .u8 0, .int .i64 0, .bool false, .nilFunc] 79)) (x.t :: met) c v) := HS3.out.below ((Below.refl _ _).alloc (Nat.le_refl _) _)
          have HX4 : Hid (CellsAt (V3.alloc (.cells #[.int .u8 0, .int .i64 0, .bool false, .nilFunc] 79)) g #[.int .u8 x.f.toNat, .int .u8 x.t.toNat, .string x.v] 32) := HX3.out.alloc _
          have HB4 : Hid (CellsAt (V3.alloc (.cells #[.int .u8 0, .int .i64 0, .bool false, .nilFunc] 79)) V3.heap.size #[.int .u8 0, .int .i64 0, .bool false, .nilFunc] 79) := CellsAt.new _ _ _
          clear HS3 HX3
          obtain ⟨x0, x1, x2⟩ := HX4.out.c3
          obtain ⟨r0, r1, r2, r3⟩ := HB4.out.c4
          clear hrow
          have z128 := and128 x.f
          cases again with
          | true =>
            have HKK := HK1
            have HQ : Hid (readStep T four internal met c v x = (c, v)) := by show _ = _; rw [HST.out]; rfl
            go_wp2_with fail
            exact ⟨⟨k + 1, x.t :: met, c, v, by omega, by go_num, HS4.out, by rw [HRF2.out, HQ.out]; show _ = _; rfl, HKK.out⟩, by simp [intOf]; omega⟩
          | false =>
            by_cases hf : x.f &&& 128 = 0
            · have zf : (((x.f &&& 128).toNat : Int) == 0) = true := by rw [hf]; rfl
              have HF8 := Lib.hid hf
              generalize (x.f &&& 128).toNat = q8 at z128 zf
              clear hf
              have HKK := HK1
              have HQ : Hid (readStep T four internal met c v x = (c, judgeF v ⟨3, 3, 2⟩)) := by show _ = _; rw [HST.out, if_neg (by simp), if_pos HF8.out]
              go_wp2_with fail
              refine (HJ.out _ v ⟨3, 3, 2⟩ _ HS4.out.v).mono ?_
              rintro e V6 ⟨rfl, hv6, hg6⟩
              have HS6 := Lib.hid (HS4.out.judge hg6 hv6)
              clear hv6 hg6
              go_wp2_with fail
              exact ⟨⟨k + 1, x.t :: met, c, judgeF v ⟨3, 3, 2⟩, by omega, by go_num, HS6.out, by rw [HRF2.out, HQ.out]; show _ = _; rfl, HKK.out⟩, by simp [intOf]; omega⟩
            · have zf : (((x.f &&& 128).toNat : Int) == 0) = false := beq_eq_false_iff_ne.2 (fun e => hf (UInt8.toNat_inj.1 (by simpa using e)))
              have HF8 := Lib.hid hf
              generalize (x.f &&& 128).toNat = q8 at z128 zf
              clear hf
              have HKK := HK1
              have HQ : Hid (readStep T four internal met c v x = (c, v)) := by show _ = _; rw [HST.out, if_neg (by simp), if_neg HF8.out]
              go_wp2_with fail
              exact ⟨⟨k + 1, x.t :: met, c, v, by omega, by go_num, HS4.out, by rw [HRF2.out, HQ.out]; show _ = _; rfl, HKK.out⟩, by simp [intOf]; omega⟩
        | some q =>
          obtain ⟨rb, rw_, ri, rf⟩ := q
          rw [hrow] at HST
          have HTX2 := Lib.hid (HTX.out rb rw_ ri rf hrow)
          have hfn := row_fn hrow
          have HFN := Lib.hid hfn
          clear hfn
          have z192 := and192 x.f
          cases ri with
          | false =>
            (try rw [hrow])
            rw [show rowV (some (rb, rw_, false, rf)) = .tuple #[.agg #[.int .u8 rb, .int .i64 rw_, .bool false, .func (.func rf) #[] #[]], .bool true] from rfl]
            have HS4 : Hid (RS w w.heap.size (V3.alloc (.cells #[.int .u8 rb, .int .i64 rw_, .bool false, .func (.func rf) #[] #[]] 79)) (x.t :: met) c v) := HS3.out.below ((Below.refl _ _).alloc (Nat.le_refl _) _)
            have HX4 : Hid (CellsAt (V3.alloc (.cells #[.int .u8 rb, .int .i64 rw_, .bool false, .func (.func rf) #[] #[]] 79)) g #[.int .u8 x.f.toNat, .int .u8 x.t.toNat, .string x.v] 32) := HX3.out.alloc _
            have HB4 : Hid (CellsAt (V3.alloc (.cells #[.int .u8 rb, .int .i64 rw_, .bool false, .func (.func rf) #[] #[]] 79)) V3.heap.size #[.int .u8 rb, .int .i64 rw_, .bool false, .func (.func rf) #[] #[]] 79) := CellsAt.new _ _ _
            clear HS3 HX3
            obtain ⟨x0, x1, x2⟩ := HX4.out.c3
            obtain ⟨r0, r1, r2, r3⟩ := HB4.out.c4
            clear hrow HTX
            cases again with
            | true =>
              have HKK := HK1
              have HQ : Hid (readStep T four internal met c v x = (c, v)) := by show _ = _; rw [HST.out]; rfl
              go_wp2_with fail
              exact ⟨⟨k + 1, x.t :: met, c, v, by omega, by go_num, HS4.out, by rw [HRF2.out, HQ.out]; show _ = _; rfl, HKK.out⟩, by simp [intOf]; omega⟩
            | false =>
              have HST2 : Hid (readStep T four internal met c v x = if ((x.f &&& 192).toNat : Int) ≠ rb then (c, judgeF v ⟨2, 0, 0⟩) else if (T x.t.toNat x.v four c).2 = true then ((T x.t.toNat x.v four c).1, v) else ((T x.t.toNat x.v four c).1, judgeF v ⟨rw_, 0, 0⟩)) := by
                show _ = _
                rw [HST.out]
                rfl
              clear HST
              by_cases hbits : ((x.f &&& 192).toNat : Int) = rb
              · have HB2 := Lib.hid hbits
                have zb : (((x.f &&& 192).toNat : Int) == rb) = true := beq_iff_eq.2 hbits
                have zb' : (((x.f &&& 192).toNat : Int) != rb) = false := by rw [bne, zb]; rfl
                generalize hq8 : ((x.f &&& 192).toNat : Int) = q8 at z192 zb zb'
                clear hbits hq8
                have HTT : Hid (Calls Tryz.prog rf #[.pointer (some ⟨w.heap.size + 1 + 1, 0, none⟩), .string x.v, .bool four] (V3.alloc (.cells #[.int .u8 rb, .int .i64 rw_, .bool false, .func (.func rf) #[] #[]] 79)) (fun e w' => e = .returned (.bool (T x.t.toNat x.v four c).2) ∧ AtVar w' (w.heap.size + 1 + 1) (T x.t.toNat x.v four c).1 ∧ Tk (V3.alloc (.cells #[.int .u8 rb, .int .i64 rw_, .bool false, .func (.func rf) #[] #[]] 79)) w' (w.heap.size + 1 + 1)) ∧ ((10 : UInt8) ∉ x.t :: met → (T x.t.toNat x.v four c).1.clus = [])) := by
                  have hx2 := HTX2.out
                  unfold TakesT at hx2
                  by_cases h10 : x.t.toNat = 10
                  · rw [if_pos h10] at hx2
                    have ht : x.t = 10 := UInt8.toNat_inj.1 h10
                    have hnm : (10 : UInt8) ∉ met := fun e => by
                      have h1 := HAG.out
                      rw [ht] at h1
                      have h2 : met.contains (10 : UInt8) = true := by simpa using e
                      rw [h2] at h1
                      cases h1
                    exact ⟨hx2 _ c x.v four _ (HKN.out hnm) HS4.out.a HSZX.out, fun h => absurd (by rw [ht]; exact List.mem_cons_self ..) h⟩
                  · rw [if_neg h10] at hx2
                    exact ⟨hx2.1 _ c x.v four _ HS4.out.a HSZX.out, fun h => by rw [hx2.2]; exact HK1.out h⟩
                have HTC := Lib.hid HTT.out.1
                have HK2 := Lib.hid HTT.out.2
                clear HTT
                have HQ0 : Hid (readStep T four internal met c v x = if (T x.t.toNat x.v four c).2 = true then ((T x.t.toNat x.v four c).1, v) else ((T x.t.toNat x.v four c).1, judgeF v ⟨rw_, 0, 0⟩)) := by
                  show _ = _
                  rw [HST2.out, if_neg (by rw [HB2.out]; simp)]
                generalize T x.t.toNat x.v four c = tk at HTC HQ0 HK2
                obtain ⟨c', is⟩ := tk
                have hrow3 : w.heap.size + 1 + 1 < V3.heap.size := HRS3.out
                go_wp2_with fail
                rw [HFN.out]
                first
                | refine HTC.out.mono ?_
                | (show Calls _ _ _ _ _; refine HTC.out.mono ?_)
                rintro e V5 ⟨rfl, hat, htk⟩
                have HS5 := Lib.hid (HS4.out.take htk hat)
                have HB5 := Lib.hid (htk.cells HB4.out (by omega) (by decide))
                clear hat htk x0 x1 x2 r0 r1 r2 r3
                obtain ⟨r0, r1, r2, r3⟩ := HB5.out.c4
                cases is with
                | true =>
                  have HKK := HK2
                  have HQ : Hid (readStep T four internal met c v x = (c', v)) := by show _ = _; rw [HQ0.out]; rfl
                  go_wp2_with fail
                  exact ⟨⟨k + 1, x.t :: met, c', v, by omega, by go_num, HS5.out, by rw [HRF2.out, HQ.out]; show _ = _; rfl, HKK.out⟩, by simp [intOf]; omega⟩
                | false =>
                  have HKK := HK2
                  have HQ : Hid (readStep T four internal met c v x = (c', judgeF v ⟨rw_, 0, 0⟩)) := by show _ = _; rw [HQ0.out]; rfl
                  go_wp2_with fail
                  refine (HJ.out _ v ⟨rw_, 0, 0⟩ _ HS5.out.v).mono ?_
                  rintro e V6 ⟨rfl, hv6, hg6⟩
                  have HS6 := Lib.hid (HS5.out.judge hg6 hv6)
                  clear hv6 hg6
                  go_wp2_with fail
                  exact ⟨⟨k + 1, x.t :: met, c', judgeF v ⟨rw_, 0, 0⟩, by omega, by go_num, HS6.out, by rw [HRF2.out, HQ.out]; show _ = _; rfl, HKK.out⟩, by simp [intOf]; omega⟩
              · have HB2 := Lib.hid hbits
                have zb : (((x.f &&& 192).toNat : Int) == rb) = false := beq_eq_false_iff_ne.2 hbits
                have zb' : (((x.f &&& 192).toNat : Int) != rb) = true := by rw [bne, zb]; rfl
                generalize hq8 : ((x.f &&& 192).toNat : Int) = q8 at z192 zb zb'
                clear hbits hq8
                have HKK := HK1
                have HQ : Hid (readStep T four internal met c v x = (c, judgeF v ⟨2, 0, 0⟩)) := by show _ = _; rw [HST2.out, if_pos HB2.out]
                go_wp2_with fail
                refine (HJ.out _ v ⟨2, 0, 0⟩ _ HS4.out.v).mono ?_
                rintro e V6 ⟨rfl, hv6, hg6⟩
                have HS6 := Lib.hid (HS4.out.judge hg6 hv6)
                clear hv6 hg6
                go_wp2_with fail
                exact ⟨⟨k + 1, x.t :: met, c, judgeF v ⟨2, 0, 0⟩, by omega, by go_num, HS6.out, by rw [HRF2.out, HQ.out]; show _ = _; rfl, HKK.out⟩, by simp [intOf]; omega⟩
          | true =>
            cases internal with
            | true =>
              (try rw [hrow])
              rw [show rowV (some (rb, rw_, true, rf)) = .tuple #[.agg #[.int .u8 rb, .int .i64 rw_, .bool true, .func (.func rf) #[] #[]], .bool true] from rfl]
              have HS4 : Hid (RS w w.heap.size (V3.alloc (.cells #[.int .u8 rb, .int .i64 rw_, .bool true, .func (.func rf) #[] #[]] 79)) (x.t :: met) c v) := HS3.out.below ((Below.refl _ _).alloc (Nat.le_refl _) _)
              have HX4 : Hid (CellsAt (V3.alloc (.cells #[.int .u8 rb, .int .i64 rw_, .bool true, .func (.func rf) #[] #[]] 79)) g #[.int .u8 x.f.toNat, .int .u8 x.t.toNat, .string x.v] 32) := HX3.out.alloc _
              have HB4 : Hid (CellsAt (V3.alloc (.cells #[.int .u8 rb, .int .i64 rw_, .bool true, .func (.func rf) #[] #[]] 79)) V3.heap.size #[.int .u8 rb, .int .i64 rw_, .bool true, .func (.func rf) #[] #[]] 79) := CellsAt.new _ _ _
              clear HS3 HX3
              obtain ⟨x0, x1, x2⟩ := HX4.out.c3
              obtain ⟨r0, r1, r2, r3⟩ := HB4.out.c4
              clear hrow HTX
              cases again with
              | true =>
                have HKK := HK1
                have HQ : Hid (readStep T four true met c v x = (c, v)) := by show _ = _; rw [HST.out]; rfl
                go_wp2_with fail
                exact ⟨⟨k + 1, x.t :: met, c, v, by omega, by go_num, HS4.out, by rw [HRF2.out, HQ.out]; show _ = _; rfl, HKK.out⟩, by simp [intOf]; omega⟩
              | false =>
                have HST2 : Hid (readStep T four true met c v x = if ((x.f &&& 192).toNat : Int) ≠ rb then (c, judgeF v ⟨2, 0, 0⟩) else if (T x.t.toNat x.v four c).2 = true then ((T x.t.toNat x.v four c).1, v) else ((T x.t.toNat x.v four c).1, judgeF v ⟨rw_, 0, 0⟩)) := by
                  show _ = _
                  rw [HST.out]
                  rfl
                clear HST
                by_cases hbits : ((x.f &&& 192).toNat : Int) = rb
                · have HB2 := Lib.hid hbits
                  have zb : (((x.f &&& 192).toNat : Int) == rb) = true := beq_iff_eq.2 hbits
                  have zb' : (((x.f &&& 192).toNat : Int) != rb) = false := by rw [bne, zb]; rfl
                  generalize hq8 : ((x.f &&& 192).toNat : Int) = q8 at z192 zb zb'
                  clear hbits hq8
                  have HTT : Hid (Calls Tryz.prog rf #[.pointer (some ⟨w.heap.size + 1 + 1, 0, none⟩), .string x.v, .bool four] (V3.alloc (.cells #[.int .u8 rb, .int .i64 rw_, .bool true, .func (.func rf) #[] #[]] 79)) (fun e w' => e = .returned (.bool (T x.t.toNat x.v four c).2) ∧ AtVar w' (w.heap.size + 1 + 1) (T x.t.toNat x.v four c).1 ∧ Tk (V3.alloc (.cells #[.int .u8 rb, .int .i64 rw_, .bool true, .func (.func rf) #[] #[]] 79)) w' (w.heap.size + 1 + 1)) ∧ ((10 : UInt8) ∉ x.t :: met → (T x.t.toNat x.v four c).1.clus = [])) := by
                    have hx2 := HTX2.out
                    unfold TakesT at hx2
                    by_cases h10 : x.t.toNat = 10
                    · rw [if_pos h10] at hx2
                      have ht : x.t = 10 := UInt8.toNat_inj.1 h10
                      have hnm : (10 : UInt8) ∉ met := fun e => by
                        have h1 := HAG.out
                        rw [ht] at h1
                        have h2 : met.contains (10 : UInt8) = true := by simpa using e
                        rw [h2] at h1
                        cases h1
                      exact ⟨hx2 _ c x.v four _ (HKN.out hnm) HS4.out.a HSZX.out, fun h => absurd (by rw [ht]; exact List.mem_cons_self ..) h⟩
                    · rw [if_neg h10] at hx2
                      exact ⟨hx2.1 _ c x.v four _ HS4.out.a HSZX.out, fun h => by rw [hx2.2]; exact HK1.out h⟩
                  have HTC := Lib.hid HTT.out.1
                  have HK2 := Lib.hid HTT.out.2
                  clear HTT
                  have HQ0 : Hid (readStep T four true met c v x = if (T x.t.toNat x.v four c).2 = true then ((T x.t.toNat x.v four c).1, v) else ((T x.t.toNat x.v four c).1, judgeF v ⟨rw_, 0, 0⟩)) := by
                    show _ = _
                    rw [HST2.out, if_neg (by rw [HB2.out]; simp)]
                  generalize T x.t.toNat x.v four c = tk at HTC HQ0 HK2
                  obtain ⟨c', is⟩ := tk
                  have hrow3 : w.heap.size + 1 + 1 < V3.heap.size := HRS3.out
                  go_wp2_with fail
                  rw [HFN.out]
                  first
                  | refine HTC.out.mono ?_
                  | (show Calls _ _ _ _ _; refine HTC.out.mono ?_)
                  rintro e V5 ⟨rfl, hat, htk⟩
                  have HS5 := Lib.hid (HS4.out.take htk hat)
                  have HB5 := Lib.hid (htk.cells HB4.out (by omega) (by decide))
                  clear hat htk x0 x1 x2 r0 r1 r2 r3
                  obtain ⟨r0, r1, r2, r3⟩ := HB5.out.c4
                  cases is with
                  | true =>
                    have HKK := HK2
                    have HQ : Hid (readStep T four true met c v x = (c', v)) := by show _ = _; rw [HQ0.out]; rfl
                    go_wp2_with fail
                    exact ⟨⟨k + 1, x.t :: met, c', v, by omega, by go_num, HS5.out, by rw [HRF2.out, HQ.out]; show _ = _; rfl, HKK.out⟩, by simp [intOf]; omega⟩
                  | false =>
                    have HKK := HK2
                    have HQ : Hid (readStep T four true met c v x = (c', judgeF v ⟨rw_, 0, 0⟩)) := by show _ = _; rw [HQ0.out]; rfl
                    go_wp2_with fail
                    refine (HJ.out _ v ⟨rw_, 0, 0⟩ _ HS5.out.v).mono ?_
                    rintro e V6 ⟨rfl, hv6, hg6⟩
                    have HS6 := Lib.hid (HS5.out.judge hg6 hv6)
                    clear hv6 hg6
                    go_wp2_with fail
                    exact ⟨⟨k + 1, x.t :: met, c', judgeF v ⟨rw_, 0, 0⟩, by omega, by go_num, HS6.out, by rw [HRF2.out, HQ.out]; show _ = _; rfl, HKK.out⟩, by simp [intOf]; omega⟩
                · have HB2 := Lib.hid hbits
                  have zb : (((x.f &&& 192).toNat : Int) == rb) = false := beq_eq_false_iff_ne.2 hbits
                  have zb' : (((x.f &&& 192).toNat : Int) != rb) = true := by rw [bne, zb]; rfl
                  generalize hq8 : ((x.f &&& 192).toNat : Int) = q8 at z192 zb zb'
                  clear hbits hq8
                  have HKK := HK1
                  have HQ : Hid (readStep T four true met c v x = (c, judgeF v ⟨2, 0, 0⟩)) := by show _ = _; rw [HST2.out, if_pos HB2.out]
                  go_wp2_with fail
                  refine (HJ.out _ v ⟨2, 0, 0⟩ _ HS4.out.v).mono ?_
                  rintro e V6 ⟨rfl, hv6, hg6⟩
                  have HS6 := Lib.hid (HS4.out.judge hg6 hv6)
                  clear hv6 hg6
                  go_wp2_with fail
                  exact ⟨⟨k + 1, x.t :: met, c, judgeF v ⟨2, 0, 0⟩, by omega, by go_num, HS6.out, by rw [HRF2.out, HQ.out]; show _ = _; rfl, HKK.out⟩, by simp [intOf]; omega⟩
            | false =>
              (try rw [hrow])
              rw [show rowV (some (rb, rw_, true, rf)) = .tuple #[.agg #[.int .u8 rb, .int .i64 rw_, .bool true, .func (.func rf) #[] #[]], .bool true] from rfl]
              have HS4 : Hid (RS w w.heap.size (V3.alloc (.cells #[.int .u8 rb, .int .i64 rw_, .bool true, .func (.func rf) #[] #[]] 79)) (x.t :: met) c v) := HS3.out.below ((Below.refl _ _).alloc (Nat.le_refl _) _)
              have HX4 : Hid (CellsAt (V3.alloc (.cells #[.int .u8 rb, .int .i64 rw_, .bool true, .func (.func rf) #[] #[]] 79)) g #[.int .u8 x.f.toNat, .int .u8 x.t.toNat, .string x.v] 32) := HX3.out.alloc _
              have HB4 : Hid (CellsAt (V3.alloc (.cells #[.int .u8 rb, .int .i64 rw_, .bool true, .func (.func rf) #[] #[]] 79)) V3.heap.size #[.int .u8 rb, .int .i64 rw_, .bool true, .func (.func rf) #[] #[]] 79) := CellsAt.new _ _ _
              clear HS3 HX3
              obtain ⟨x0, x1, x2⟩ := HX4.out.c3
              obtain ⟨r0, r1, r2, r3⟩ := HB4.out.c4
              clear hrow HTX
              cases again with
              | true =>
                have HKK := HK1
                have HQ : Hid (readStep T four false met c v x = (c, v)) := by show _ = _; rw [HST.out]; rfl
                go_wp2_with fail
                exact ⟨⟨k + 1, x.t :: met, c, v, by omega, by go_num, HS4.out, by rw [HRF2.out, HQ.out]; show _ = _; rfl, HKK.out⟩, by simp [intOf]; omega⟩
              | false =>
                have HKK := HK1
                have HQ : Hid (readStep T four false met c v x = (c, judgeF v ⟨1, 0, 0⟩)) := by show _ = _; rw [HST.out]; rfl
                go_wp2_with fail
                refine (HJ.out _ v ⟨1, 0, 0⟩ _ HS4.out.v).mono ?_
                rintro e V6 ⟨rfl, hv6, hg6⟩
                have HS6 := Lib.hid (HS4.out.judge hg6 hv6)
                clear hv6 hg6
                go_wp2_with fail
                exact ⟨⟨k + 1, x.t :: met, c, judgeF v ⟨1, 0, 0⟩, by omega, by go_num, HS6.out, by rw [HRF2.out, HQ.out]; show _ = _; rfl, HKK.out⟩, by simp [intOf]; omega⟩
    · obtain rfl : k = L.length := by omega
      have HF : Hid (res = (c, v)) := by
        show _ = _
        rw [HRF.out, List.drop_length]
        rfl
      clear HRF
      obtain ⟨a, ha1, ha2, ha3⟩ := HRS.out.a.x
      have HRE : Hid (RE w w.heap.size wr a v) := ⟨ha1, HRS.out.v, ⟨_, HRS.out.r1⟩, ⟨_, HRS.out.r2⟩, ha2, HRS.out.b⟩
      have HAC := Lib.hid ha3
      clear HRS ha1 ha2 ha3
      obtain ⟨v0, v1, v2⟩ := CellsAt.c3 HRE.out.vc
      by_cases h2 : 2 ≤ v.act
      · have z2 : decide (v.act ≥ 2) = true := decide_eq_true h2
        have HQ : Hid ((if 2 ≤ v.act then noC else c) = noC) := if_pos h2
        clear h2
        go_upto_region 27 with fail
        refine wp_region_held_drew (S := fun w' => RE w w.heap.size w' a v) (by kernel_rfl) (HRE.out.drew 1) (fun hHeld => ?_)
        refine wpAnyH_take (i := 0) (oi := { dst := some 97, op := Op.build 40 #[], type := 40, pos := "attr.go:283", after := #[], guard := none }) (v := .agg noAtr.ar) rfl (by kernel_rfl) (by kernel_rfl) (by kernel_rfl) (fun _ _ _ h => h) (Or.inl ⟨by rfl, ?_⟩) hHeld ?_
        · intro w hSw
          clear hSw
          go_simp
          rfl
        try simp only [Act.put, List.setIfInBounds_toArray, List.set_cons_zero, List.set_cons_succ]
        refine wpAnyH_take (i := 1) (oi := { dst := some 98, op := Op.load 42 (Operand.tmp 9), type := 42, pos := "attr.go:283", after := #[{ on := 2, ground := Ground.gcOnly Departure.lateStores }], guard := none }) (v := .agg v.ar) rfl (by kernel_rfl) (by kernel_rfl) (by kernel_rfl) (fun _ _ _ h => h) (yields_verdict (by rfl) _ rfl (w.heap.size + 1 + 1 + 1) (by rfl) v (fun w h => h.vc)) hHeld ?_
        try simp only [Act.put, List.setIfInBounds_toArray, List.set_cons_zero, List.set_cons_succ]
        refine wpAnyH_ready (rs := [2]) (by kernel_rfl) (by simp) ?_
        refine AllReadyH.cons (o := { dst := none, op := Op.store 40 (Operand.tmp 6) (Operand.tmp 97), type := 0, pos := "attr.go:283", after := #[{ on := 0, ground := Ground.data }, { on := 0, ground := Ground.phase }, { on := 1, ground := Ground.textOnly Departure.lateStores }], guard := none }) rfl (fun K hK => ?_) AllReadyH.nil
        refine wp_store_attrs _ _ rfl w.heap.size (by rfl) noAtr (by rfl) _ hHeld.r1.choose_spec ?_
        refine hK.out _ _ (hHeld.store1 noAtr) (fun hHeld => ?_)
        clear hK K
        try simp only [Act.put, List.setIfInBounds_toArray, List.set_cons_zero, List.set_cons_succ]
        refine wpAnyH_ready (rs := [3]) (by kernel_rfl) (by simp) ?_
        refine AllReadyH.cons (o := { dst := none, op := Op.store 42 (Operand.tmp 7) (Operand.tmp 98), type := 0, pos := "attr.go:283", after := #[{ on := 1, ground := Ground.data }, { on := 2, ground := Ground.chain }, { on := 0, ground := Ground.phase }, { on := 1, ground := Ground.phase }, { on := 2, ground := Ground.phase }], guard := none }) rfl (fun K hK => ?_) AllReadyH.nil
        refine wp_store_verdict _ _ rfl (w.heap.size + 1) (by rfl) v (by rfl) _ hHeld.r2.choose_spec ?_
        refine hK.out _ _ (hHeld.store2 v) (fun hHeld => ?_)
        clear hK K
        try simp only [Act.put, List.setIfInBounds_toArray, List.set_cons_zero, List.set_cons_succ]
        refine wpAnyH_done (by kernel_rfl) ?_ _
        obtain ⟨q, hq⟩ := HRE.out.r1
        obtain ⟨q2, hq2⟩ := HRE.out.r2
        have E1 := Lib.hid ((CellsAt.setRow (hq.drew 1) noAtr.ar).row (grown_setRow _ (w.heap.size + 1) v.ar) (by omega))
        have E2 := Lib.hid (CellsAt.setRow (CellsAt.row (CellsAt.drew hq2 1) (grown_setRow _ w.heap.size noAtr.ar) (by omega)) v.ar)
        have HE := Lib.hid hHeld
        clear hHeld hq hq2
        go_wp2_with fail
        try simp only [Exit.inBlock, Exit.then]
        refine bodyPost_ret (v := .tuple #[Atr.v noAtr, .agg v.ar]) (results_read rfl rfl rfl E1.out E2.out) rfl ?_
        exact ⟨⟨noAtr, by rw [HF.out], noAtr_own _ _, by rw [HF.out]; show _ = if 2 ≤ v.act then noC else c; rw [HQ.out]; rfl⟩, HE.out.b⟩
      · have z2 : decide (v.act ≥ 2) = false := decide_eq_false h2
        have HQ : Hid ((if 2 ≤ v.act then noC else c) = c) := if_neg h2
        clear h2
        go_upto_region 28 with fail
        refine wp_region_held_drew (S := fun w' => RE w w.heap.size w' a v) (by kernel_rfl) (HRE.out.drew 1) (fun hHeld => ?_)
        refine wpAnyH_take (i := 0) (oi := { dst := some 99, op := Op.load 40 (Operand.tmp 8), type := 40, pos := "attr.go:285", after := #[], guard := none }) (v := .agg a.ar) rfl (by kernel_rfl) (by kernel_rfl) (by kernel_rfl) (fun _ _ _ h => h) (yields_attrs (by rfl) _ rfl (w.heap.size + 1 + 1) (by rfl) a (fun w h => h.ac)) hHeld ?_
        try simp only [Act.put, List.setIfInBounds_toArray, List.set_cons_zero, List.set_cons_succ]
        refine wpAnyH_take (i := 1) (oi := { dst := some 100, op := Op.load 42 (Operand.tmp 9), type := 42, pos := "attr.go:285", after := #[{ on := 2, ground := Ground.gcOnly Departure.lateStores }], guard := none }) (v := .agg v.ar) rfl (by kernel_rfl) (by kernel_rfl) (by kernel_rfl) (fun _ _ _ h => h) (yields_verdict (by rfl) _ rfl (w.heap.size + 1 + 1 + 1) (by rfl) v (fun w h => h.vc)) hHeld ?_
        try simp only [Act.put, List.setIfInBounds_toArray, List.set_cons_zero, List.set_cons_succ]
        refine wpAnyH_ready (rs := [2]) (by kernel_rfl) (by simp) ?_
        refine AllReadyH.cons (o := { dst := none, op := Op.store 40 (Operand.tmp 6) (Operand.tmp 99), type := 0, pos := "attr.go:285", after := #[{ on := 0, ground := Ground.data }, { on := 0, ground := Ground.phase }, { on := 1, ground := Ground.textOnly Departure.lateStores }], guard := none }) rfl (fun K hK => ?_) AllReadyH.nil
        refine wp_store_attrs _ _ rfl w.heap.size (by rfl) a (by rfl) _ hHeld.r1.choose_spec ?_
        refine hK.out _ _ (hHeld.store1 a) (fun hHeld => ?_)
        clear hK K
        try simp only [Act.put, List.setIfInBounds_toArray, List.set_cons_zero, List.set_cons_succ]
        refine wpAnyH_ready (rs := [3]) (by kernel_rfl) (by simp) ?_
        refine AllReadyH.cons (o := { dst := none, op := Op.store 42 (Operand.tmp 7) (Operand.tmp 100), type := 0, pos := "attr.go:285", after := #[{ on := 1, ground := Ground.data }, { on := 2, ground := Ground.chain }, { on := 0, ground := Ground.phase }, { on := 1, ground := Ground.phase }, { on := 2, ground := Ground.phase }], guard := none }) rfl (fun K hK => ?_) AllReadyH.nil
        refine wp_store_verdict _ _ rfl (w.heap.size + 1) (by rfl) v (by rfl) _ hHeld.r2.choose_spec ?_
        refine hK.out _ _ (hHeld.store2 v) (fun hHeld => ?_)
        clear hK K
        try simp only [Act.put, List.setIfInBounds_toArray, List.set_cons_zero, List.set_cons_succ]
        refine wpAnyH_done (by kernel_rfl) ?_ _
        obtain ⟨q, hq⟩ := HRE.out.r1
        obtain ⟨q2, hq2⟩ := HRE.out.r2
        have E1 := Lib.hid ((CellsAt.setRow (hq.drew 1) a.ar).row (grown_setRow _ (w.heap.size + 1) v.ar) (by omega))
        have E2 := Lib.hid (CellsAt.setRow (CellsAt.row (CellsAt.drew hq2 1) (grown_setRow _ w.heap.size a.ar) (by omega)) v.ar)
        have HE := Lib.hid hHeld
        clear hHeld hq hq2
        go_wp2_with fail
        try simp only [Exit.inBlock, Exit.then]
        refine bodyPost_ret (v := .tuple #[Atr.v a, .agg v.ar]) (results_read rfl rfl rfl E1.out E2.out) rfl ?_
        exact ⟨⟨a, by rw [HF.out], AtO.lower HE.out.o (by omega), by rw [HF.out]; show _ = if 2 ≤ v.act then noC else c; rw [HQ.out]; exact HAC.out.1⟩, HE.out.b⟩
end Go.Proofs.YtkcojblflebomaaGreat
