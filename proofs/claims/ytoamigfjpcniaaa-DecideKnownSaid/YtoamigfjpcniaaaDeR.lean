/-
  Paths of small numbers: of walked. Conditions: sizes.
-/
import Derived.Test.YtoamigfjpcniaaaDeQ
set_option linter.unusedVariables false
set_option linter.unusedSimpArgs false
namespace Go.Proofs.Ytoamigfjpcniaaa
open Go.RowKit Go.MapKept Go.Shelf
open Go.Lib hiding intOf

/-- the blocks in which a path's slices lie -/
def PtBl (q : Pt) (g : Nat) : Prop := (0 < q.segs.length ∧ ∃ off, q.pA = some ⟨g, off, none⟩) ∨ (∃ s ∈ q.segs, 0 < s.as_.length ∧ ∃ off, s.A = some ⟨g, off, none⟩) ∨ (0 < q.clus.length ∧ ∃ off, q.cA = some ⟨g, off, none⟩)
theorem Rd.lt {w : World} {A : Option Addr} {C g off : Nat} {xs : List (List Value)} (h : Rd w A C xs) (hl : 0 < xs.length) (hA : A = some ⟨g, off, none⟩) : g < w.heap.size := by
  obtain ⟨b, o, hA2, hlt, _⟩ := h hl
  rw [hA] at hA2
  simp only [Option.some.injEq, Addr.mk.injEq] at hA2
  rw [hA2.1]
  exact hlt
theorem PtOk.bl {w : World} {q : Pt} {g : Nat} (h : PtOk w q) (hg : PtBl q g) : g < w.heap.size := by
  rcases hg with ⟨hl, off, hA⟩ | ⟨s, hs, hl, off, hA⟩ | ⟨hl, off, hA⟩
  · exact h.rd.lt (by rwa [List.length_map]) hA
  · exact (h.segs s hs).rd.lt (by rwa [List.length_map]) hA
  · exact h.crd.lt (by rwa [List.length_map]) hA
theorem Rd.grown {w w2 : World} {A : Option Addr} {C : Nat} {xs : List (List Value)} {row : Option Nat} (h : Rd w A C xs) (hg : w.grownBy w2 row) (hr : ∀ (b off : Nat), 0 < xs.length → A = some ⟨b, off, none⟩ → some b ≠ row) : Rd w2 A C xs := fun hl => by
  obtain ⟨b, off, hA, hlt, hc⟩ := h hl
  exact ⟨b, off, hA, Nat.lt_of_lt_of_le hlt hg.size, fun i cs hi j u hu => by
    have h1 := hc i cs hi j u hu
    have h2 := hg.block b hlt (hr b off hl hA)
    unfold World.cell? at h1 ⊢
    rw [h2]
    exact h1⟩
theorem PtOk.grown {w w2 : World} {q : Pt} {row : Option Nat} (h : PtOk w q) (hg : w.grownBy w2 row) (hr : ∀ g, PtBl q g → some g ≠ row) : PtOk w2 q :=
  ⟨h.rd.grown hg fun b off hl hA => hr b (.inl ⟨by rwa [List.length_map] at hl, off, hA⟩), fun s hs => ⟨(h.segs s hs).rd.grown hg fun b off hl hA => hr b (.inr (.inl ⟨s, hs, by rwa [List.length_map] at hl, off, hA⟩)), (h.segs s hs).len, (h.segs s hs).cap, (h.segs s hs).fits⟩, h.len, h.cap, h.clen, h.ccap, h.peer, h.addr,
    h.crd.grown hg fun b off hl hA => hr b (.inr (.inr ⟨by rwa [List.length_map] at hl, off, hA⟩)), h.one1, h.one2, h.one3⟩
/-- a path by small numbers -/
structure Spt where
  pref : Nat
  long : Nat
  origin : Nat
  med : Nat
  as_ : Nat
  kind : Nat
  cost : Nat
  id : Nat
  clus : Nat
structure Spt.Ok (x : Spt) : Prop where
  pref : x.pref < 256
  long : x.long < 256
  origin : x.origin < 256
  med : x.med < 256
  as_ : x.as_ < 256
  kind : x.kind < 256
  cost : x.cost < 256
  id : x.id < 256
  clus : x.clus < 256
def Spt.cs (x : Spt) : List Value := [.int .u8 (x.pref : Nat), .int .u8 (x.long : Nat), .int .u8 (x.origin : Nat), .int .u8 (x.med : Nat), .int .u8 (x.as_ : Nat), .int .u8 (x.kind : Nat), .int .u8 (x.cost : Nat), .int .u8 (x.id : Nat), .int .u8 (x.clus : Nat)]
def Spt.v (x : Spt) : Value := .agg #[.int .u8 (x.pref : Nat), .int .u8 (x.long : Nat), .int .u8 (x.origin : Nat), .int .u8 (x.med : Nat), .int .u8 (x.as_ : Nat), .int .u8 (x.kind : Nat), .int .u8 (x.cost : Nat), .int .u8 (x.id : Nat), .int .u8 (x.clus : Nat)]
def hopS (x : Spt) : ByteArray := ⟨#[10, 0, 0, UInt8.ofNat (x.cost % 4)]⟩
def prefS (x : Spt) : Int := if (0 : Int) < (x.pref : Int) % 3 then 99 + (x.pref : Int) % 3 else 0
def medS (x : Spt) : Int := if (0 : Int) < (x.med : Int) % 3 then (x.med : Int) % 5 else 0
def asS (x : Spt) (k : Nat) : List Nat := (1 + x.as_ % 3) :: List.replicate k 9
/-- clusters -/
def sv (k : Nat) : List Nat := List.replicate k 7
theorem sv_len (k : Nat) : (sv k).length = k := List.length_replicate
/-- while it is being made -/
def ofQ (x : Spt) (at_ : Nat) (pref med : Int) (A : Option Addr) (segs : List Sg) (c : Nat) (C : Option Addr) (k e : Nat) : Pt :=
  ⟨0, 0, ⟨#[]⟩, 0, at_, 0, (x.origin : Int) % 3, A, segs, c, hopS x, decide ((0 : Int) < (x.med : Int) % 3), med, decide ((0 : Int) < (x.pref : Int) % 3), pref, false, 0, 0, .slice none 0 0, .slice none 0 0, .slice none 0 0, false, 0, C, sv k, e, 0, ⟨#[]⟩, 0, 0, ⟨#[]⟩, ⟨#[]⟩, false⟩
/-- the path, where its slices lie in memory said -/
def ofP (x : Spt) (at_ : Nat) (A B C : Option Addr) (c d e : Nat) : Pt :=
  { ofQ x at_ (prefS x) (medS x) A [⟨2, B, asS x (x.long % 3), d⟩] c C (x.clus % 3) e with kind := 1 + (x.kind : Int) % 5, sid := (x.id : Int) % 3, peer := ⟨#[112]⟩ }
theorem ofQ_ones (x : Spt) (at_ : Nat) (pref med : Int) (A : Option Addr) (segs : List Sg) (c : Nat) (C : Option Addr) (k e : Nat) : ∀ u ∈ (ofQ x at_ pref med A segs c C k e).cs.toList, u.oneCell' = true := by
  intro u hu
  unfold Pt.cs ofQ at hu
  simp only [List.mem_cons, List.not_mem_nil, or_false] at hu
  rcases hu with rfl | rfl | rfl | rfl | rfl | rfl | rfl | rfl | rfl | rfl | rfl | rfl | rfl | rfl | rfl | rfl | rfl | rfl | rfl | rfl | rfl | rfl | rfl | rfl | rfl | rfl | rfl | rfl | rfl <;> rfl
theorem ofP_ones (x : Spt) (at_ : Nat) (A B C : Option Addr) (c d e : Nat) : ∀ u ∈ (ofP x at_ A B C c d e).cs.toList, u.oneCell' = true := by
  intro u hu
  unfold Pt.cs ofP ofQ at hu
  simp only [List.mem_cons, List.not_mem_nil, or_false] at hu
  rcases hu with rfl | rfl | rfl | rfl | rfl | rfl | rfl | rfl | rfl | rfl | rfl | rfl | rfl | rfl | rfl | rfl | rfl | rfl | rfl | rfl | rfl | rfl | rfl | rfl | rfl | rfl | rfl | rfl | rfl <;> rfl
theorem conv4 {W : World} {b : Nat} {T : TypeId} (n : Nat) (hn : n < 4) (h : CellsAt W b #[.int .u8 10, .int .u8 0, .int .u8 0, .int .u8 (n : Nat)] T) : (convert 93 9 (.slice (some ⟨b, 0, none⟩) 4 4)).run Try.prog W = .ok (.string ⟨#[10, 0, 0, UInt8.ofNat n]⟩) W := by
  refine run_convert_bytes_back (P := Try.prog) W 93 9 5 ⟨b, 0, none⟩ 4 [10, 0, 0, UInt8.ofNat n] Try.underlying93 Try.underlying5 Try.underlying9 (fun j hj => ?_)
  rw [add_flat, h.c j]
  have hj4 : j < 4 := hj
  rcases (show j = 0 ∨ j = 1 ∨ j = 2 ∨ j = 3 by omega) with rfl | rfl | rfl | rfl
  · rfl
  · rfl
  · rfl
  · show some (Value.int .u8 (n : Nat)) = some (Value.int .u8 ((UInt8.ofNat n).toNat : Nat))
    rw [show (UInt8.ofNat n).toNat = n by rw [UInt8.toNat_ofNat']; omega]
/-- numbers of 32 bits that a call made -/
def u32V (ns : List Nat) : List Value := ns.map fun n => .int .u32 (n : Nat)
def U32Own (w : World) (base : Nat) (v : Value) (ns : List Nat) : Prop := OwnM w base 28 1 v ns.length (u32V ns)
theorem infoU32 : (Try.prog.info? 28).map (fun i => (i.zero, i.size, i.bytes)) = some (some (.int .u32 0), 1, 4) := by kernel_rfl
theorem U32Own.one {w : World} {b base : Nat} {n : Nat} (h : CellsAt w b #[.int .u32 (n : Nat)] 28) (hb : base ≤ b) : U32Own w base (.slice (some ⟨b, 0, none⟩) 1 1) [n] :=
  ⟨rfl, .inr ⟨b, 1, _, (0, 0), rfl, hb, h, .inl (Nat.le_refl _), Nat.le_refl _, by decide, rfl, rfl⟩⟩
theorem U32Own.sg {w : World} {base : Nat} {v : Value} {ns : List Nat} (h : U32Own w base v ns) : ∃ A c, v = .slice A ns.length c ∧ Rd w A 1 (ns.map fun n => [.int .u32 (n : Nat)]) ∧ ns.length ≤ c ∧ c ≤ maxLen := by
  rcases Nat.eq_zero_or_pos ns.length with h0 | h0
  · obtain rfl : ns = [] := List.eq_nil_of_length_eq_zero h0
    rcases h.2 with ⟨h2, _⟩ | ⟨g, cap, cur, fr, h2, _, _, _, h4, h5, _⟩
    · exact ⟨none, 0, h2, fun hl => absurd hl (by simp), Nat.le_refl _, Nat.zero_le _⟩
    · exact ⟨_, cap, h2, fun hl => absurd hl (by simp), h4, h5⟩
  · obtain ⟨g, cap, hv, hb, hg, hn, hc, hcell, _⟩ := OwnM.cells h h0
    refine ⟨_, cap, hv, fun _ => ⟨g, 0, rfl, hg, fun i cs hi j u hu => ?_⟩, hn, hc⟩
    rw [List.getElem?_map] at hi
    cases hx : ns[i]? with
    | none => rw [hx] at hi; cases hi
    | some n =>
      rw [hx] at hi
      obtain rfl : [Value.int .u32 (n : Nat)] = cs := Option.some.inj hi
      match j, hu with
      | 0, hu =>
        rw [show 0 + i * 1 + 0 = i by omega]
        refine hcell i u ?_
        unfold u32V
        rw [List.getElem?_map, hx]
        exact hu
      | j + 1, hu => cases hu
theorem wpList_append_u32 {ops : Array Oper} {rest : List Oper} {op : Oper} {a : Act} {W : World} {Q : Exit → Act → World → Prop} (hgd : op.guard = none) (s p : Operand)
    (ho : op.op = .call { callee := .builtin .append, args := #[s, p], argTypes := #[30, 30] }) (base : Nat) (v : Value) (ys : List Nat) (hs : a.eval s = v) (hown : Hid (U32Own W base v ys))
    (n : Nat) (b : Nat) (hp : a.eval p = .slice (some ⟨b, 0, none⟩) 1 1) (hc : Hid (CellsAt W b #[.int .u32 (n : Nat)] 28)) (hl : ys.length ≤ 1000000) (hbase : base ≤ W.heap.size)
    (h : ∀ A' c' w', Hid (U32Own w' base (.slice A' (ys.length + 1) c') (ys ++ [n])) → Hid (∀ B w0, Below B w0 W → B ≤ base → Below B w0 w') → Hid (W.grownBy w' v.ownBlock) → wpList Try.prog ops Q rest (a.put op.dst (.slice A' (ys.length + 1) c')) w') : wpList Try.prog ops Q (op :: rest) a W := by
  obtain ⟨i0, hi, hz0, hz1, hz2⟩ := info_parts infoU32
  have hown := hown.out
  refine wpList_append_m hgd s p 30 30 ho base 28 i0 _ 1 4 Try.underlying30 hi hz0 hz1 hz2 rfl (by decide) v ys.length (u32V ys) hs hown _ 1 (u32V [n]) hp ?_ ?_ ?_ hbase ?_
  · exact Src.cells Try.underlying30 hc.out rfl (fun u hu => by simp at hu; subst hu; rfl)
  · unfold maxLen
    omega
  · omega
  · intro v' w' hv hg _
    obtain ⟨A', c', rfl⟩ := hv.form
    refine h A' c' w' ?_ (fun B w0 hb hB => hown.below_grown hg hb (Nat.le_trans hB hbase) hB) hg
    show OwnM _ _ _ _ _ _ _
    rw [List.length_append]
    unfold u32V at hv ⊢
    rw [List.map_append]
    exact hv
theorem of_ok {w : World} {x : Spt} {at_ : Nat} {A B C : Option Addr} {c d e : Nat} (h1 : Rd w A 2 [[.int .i64 2, .slice B (asS x (x.long % 3)).length d]]) (hc : 1 ≤ c) (hc2 : c ≤ maxLen) (h2 : Rd w B 1 ((asS x (x.long % 3)).map fun n => [.int .u32 (n : Nat)])) (hd : (asS x (x.long % 3)).length ≤ d) (hd2 : d ≤ maxLen)
    (h3 : Rd w C 1 ((sv (x.clus % 3)).map fun n => [.int .u32 (n : Nat)])) (he : x.clus % 3 ≤ e) (he2 : e ≤ maxLen) : PtOk w (ofP x at_ A B C c d e) := by
  refine ⟨h1, fun s hs => ?_, hc, hc2, ?_, he2, by show (⟨#[112]⟩ : ByteArray).size ≤ 9223372036854775807; decide, by show (⟨#[]⟩ : ByteArray).size ≤ 9223372036854775807; decide, h3, rfl, rfl, rfl⟩
  · obtain rfl : s = _ := List.mem_singleton.1 hs
    refine ⟨h2, hd, hd2, fun n hn => ?_⟩
    have hn : n ∈ asS x (x.long % 3) := hn
    unfold asS at hn
    rcases List.mem_cons.1 hn with rfl | hn
    · omega
    · rw [List.eq_of_mem_replicate hn]
      decide
  · show (sv (x.clus % 3)).length ≤ e
    rw [sv_len]
    exact he

/-- the call's boxes, while the path is being made -/
structure Made (w V : World) (x : Spt) (b : Nat) (P : Pt) : Prop where
  spot : CellsAt V w.heap.size #[.int .u8 (x.pref : Nat), .int .u8 (x.long : Nat), .int .u8 (x.origin : Nat), .int .u8 (x.med : Nat), .int .u8 (x.as_ : Nat), .int .u8 (x.kind : Nat), .int .u8 (x.cost : Nat), .int .u8 (x.id : Nat), .int .u8 (x.clus : Nat)] 75
  res : CellsAt V (w.heap.size + 1) zeroPt 38
  box : CellsAt V b P.cs 38
  below : Below w.heap.size w V
  lt : w.heap.size + 1 < b
theorem Made.grow {w V V' : World} {x : Spt} {b : Nat} {P : Pt} (h : Made w V x b P) (hb : Below (b + 1) V V') : Made w V' x b P :=
  ⟨h.spot.below hb (by have := h.lt; omega), h.res.below hb (by have := h.lt; omega), h.box.below hb (by omega), h.below.trans (hb.mono (by have := h.lt; omega)), h.lt⟩
theorem Made.alloc {w V : World} {x : Spt} {b : Nat} {P : Pt} (h : Made w V x b P) (ob : Obj) : Made w (V.alloc ob) x b P := ⟨h.spot.alloc _, h.res.alloc _, h.box.alloc _, h.below.alloc (h.below.size) _, h.lt⟩
theorem Made.set {w V : World} {x : Spt} {b : Nat} {P P' : Pt} (h : Made w V x b P) (i : Nat) (v : Value) (e : P.cs.setIfInBounds i v = P'.cs) : Made w (V.setCell ⟨b, i, none⟩ v) x b P' :=
  ⟨(Below.heap_setCell V ⟨b, i, none⟩ v _ (by have := h.lt; show w.heap.size ≠ b; omega)).trans h.spot, (Below.heap_setCell V ⟨b, i, none⟩ v _ (by have := h.lt; show w.heap.size + 1 ≠ b; omega)).trans h.res, (h.box.setc i v).cast e, below_setCell h.below (by have := h.lt; show w.heap.size ≤ b; omega) _, h.lt⟩
theorem Made.c {w V : World} {x : Spt} {b : Nat} {P : Pt} (h : Made w V x b P) : V.cell? ⟨w.heap.size, 0, none⟩ = some (.int .u8 (x.pref : Nat)) ∧ V.cell? ⟨w.heap.size, 1, none⟩ = some (.int .u8 (x.long : Nat)) ∧ V.cell? ⟨w.heap.size, 3, none⟩ = some (.int .u8 (x.med : Nat)) ∧ V.cell? ⟨w.heap.size, 4, none⟩ = some (.int .u8 (x.as_ : Nat)) ∧ V.cell? ⟨w.heap.size, 5, none⟩ = some (.int .u8 (x.kind : Nat)) ∧ V.cell? ⟨w.heap.size, 7, none⟩ = some (.int .u8 (x.id : Nat)) ∧ V.cell? ⟨w.heap.size, 8, none⟩ = some (.int .u8 (x.clus : Nat)) :=
  ⟨(h.spot.c 0).trans rfl, (h.spot.c 1).trans rfl, (h.spot.c 3).trans rfl, (h.spot.c 4).trans rfl, (h.spot.c 5).trans rfl, (h.spot.c 7).trans rfl, (h.spot.c 8).trans rfl⟩
section
variable {ops : Array Oper} {rest : List Oper} {op : Oper} {a : Act} {Q : Exit → Act → World → Prop}
theorem wpList_made_new {w W : World} {Z : Array Value} {x : Spt} (hgd : op.guard = none) (p q : Operand) (ho : op.op = .store 38 p q) (hx : a.eval p = .pointer (some ⟨W.heap.size, 0, none⟩)) (P : Pt) (hy : a.eval q = .agg P.cs)
    (hZ : Z.size = 29) (h1 : Hid (∀ u ∈ P.cs.toList, u.oneCell' = true)) (hs : Hid (CellsAt W w.heap.size #[.int .u8 (x.pref : Nat), .int .u8 (x.long : Nat), .int .u8 (x.origin : Nat), .int .u8 (x.med : Nat), .int .u8 (x.as_ : Nat), .int .u8 (x.kind : Nat), .int .u8 (x.cost : Nat), .int .u8 (x.id : Nat), .int .u8 (x.clus : Nat)] 75)) (hr : Hid (CellsAt W (w.heap.size + 1) zeroPt 38)) (hb : Hid (Below w.heap.size w W)) (hl : Hid (w.heap.size + 1 < W.heap.size))
    (h : ∀ V, Hid (Made w V x W.heap.size P) → wpList Try.prog ops Q rest (a.put op.dst undef) V) : wpList Try.prog ops Q (op :: rest) a (W.alloc (.cells Z 38)) :=
  wpList_store_path hgd p q ho hx P hy hZ h1.out (h _ ⟨hs.out.alloc _, hr.out.alloc _, CellsAt.new _ _ _, hb.out.alloc hb.out.size _, hl.out⟩)
theorem run_storeAt_one {P : Program} (w : World) (b o : Nat) (ty : TypeId) (v : Value) (ht : w.there b o 1) (hi : (P.info? ty).map (·.size) = some 1) (h1 : v.oneCell' = true) :
    (Instr.storeAt ty (.pointer (some ⟨b, o, none⟩)) v).run P w = .ok () (w.setCell ⟨b, o, none⟩ v) := by
  have := run_storeCells_cells (P := P) b o [v] 0 w (fun j hj => by simpa using (ht j (by simpa using hj)).1) (fun j hj => by simpa using (ht j (by simpa using hj)).2) (fun u hu => by simp at hu; subst hu; exact h1)
  have hc : v.cells = #[v] := by cases v <;> first | rfl | cases h1
  cases hq : P.info? ty with
  | none => simp [hq] at hi
  | some i =>
    have hs : i.size = 1 := by simpa [hq] using hi
    simp only [Nat.add_zero] at this
    have e : storeVar ty ⟨b, o, none⟩ v = storeVar ty ⟨b, o, none⟩ v := rfl
    simp [Instr.storeAt, Instr.sureAddr, storeVar, sizeOf, typeInfo, hq, hc, hs, this, World.setCells]
/-- a cell of the box is laid -/
theorem wpList_made_set {w V : World} {x : Spt} {b : Nat} {P : Pt} (hgd : op.guard = none) (ty : TypeId) (p q : Operand) (ho : op.op = .store ty p q) (i : Nat) (hx : a.eval p = .pointer (some ⟨b, i, none⟩)) (v : Value) (hy : a.eval q = v) (hi : (Try.prog.info? ty).map (·.size) = some 1)
    (hM : Hid (Made w V x b P)) (P' : Pt) (e : Hid (P.cs.setIfInBounds i v = P'.cs)) (hi2 : i < 29) (h1 : v.oneCell' = true)
    (h : ∀ V', Hid (Made w V' x b P') → Hid (V'.heap.size = V.heap.size) → Hid (∀ k, k ≠ b → V'.heap[k]? = V.heap[k]?) → wpList Try.prog ops Q rest (a.put op.dst undef) V') : wpList Try.prog ops Q (op :: rest) a V :=
  wpList_plain hgd fun _ hK => by
    have ht : V.there b i 1 := fun j hj => by
      obtain rfl : j = 0 := by omega
      have hsz : i < P.cs.size := by rw [Pt.cs_size]; exact hi2
      exact ⟨by rw [Nat.add_zero, hM.out.box.c i, Array.getElem?_eq_getElem hsz]; rfl, hM.out.box.frozen _⟩
    unfold Oper.wp execOp
    simp only [ho, hx, hy, run_storeAt_one (P := Try.prog) V b i ty v ht hi h1, Sem.run_bind, Sem.run_pure, Result.andThen_ok]
    exact hK _ _ (h _ (hM.out.set i v e.out) (by show _ = _; simp [World.setCell]) (fun k hk => Below.heap_setCell V ⟨b, i, none⟩ v k hk))
/-- the source is laid -/
theorem wpList_made_src {w V : World} {x : Spt} {b : Nat} {P : Pt} (hgd : op.guard = none) (p q : Operand) (ho : op.op = .store 36 p q) (hx : a.eval p = .pointer (some ⟨b, 22, none⟩)) (c0 c1 c2 c3 c4 c5 : Value) (hy : a.eval q = .agg #[c0, c1, c2, c3, c4, c5])
    (hM : Hid (Made w V x b P)) (P' : Pt) (e : Hid (((((((P.cs.setIfInBounds 22 c0).setIfInBounds 23 c1).setIfInBounds 24 c2).setIfInBounds 25 c3).setIfInBounds 26 c4).setIfInBounds 27 c5) = P'.cs)) (h1 : (#[c0, c1, c2, c3, c4, c5] : Array Value).all (·.oneCell') = true)
    (h : ∀ V', Hid (Made w V' x b P') → Hid (V'.heap.size = V.heap.size) → Hid (∀ k, k ≠ b → V'.heap[k]? = V.heap[k]?) → wpList Try.prog ops Q rest (a.put op.dst undef) V') : wpList Try.prog ops Q (op :: rest) a V := by
  have ht : V.there b 22 6 := fun j hj => by
    have hsz : 22 + j < P.cs.size := by rw [Pt.cs_size]; omega
    exact ⟨by rw [hM.out.box.c, Array.getElem?_eq_getElem hsz]; rfl, hM.out.box.frozen _⟩
  refine wpList_store_mid hgd 36 p q ho b 22 #[c0, c1, c2, c3, c4, c5] hx hy ht (by kernel_rfl) h1 ?_
  have hh := hM.out.lt
  have key : ∀ k, k ≠ b → (V.setCells b 22 [c0, c1, c2, c3, c4, c5]).heap[k]? = V.heap[k]? := fun k hk => by
    simp only [World.setCells]
    rw [Below.heap_setCell _ _ _ _ hk, Below.heap_setCell _ _ _ _ hk, Below.heap_setCell _ _ _ _ hk, Below.heap_setCell _ _ _ _ hk, Below.heap_setCell _ _ _ _ hk, Below.heap_setCell _ _ _ _ hk]
  refine h (V.setCells b 22 [c0, c1, c2, c3, c4, c5]) ⟨(key _ (by omega)).trans hM.out.spot, (key _ (by omega)).trans hM.out.res, ?_, ?_, hh⟩ ?_ key
  · simp only [World.setCells]
    exact ((((((hM.out.box.setc 22 c0).setc 23 c1).setc 24 c2).setc 25 c3).setc 26 c4).setc 27 c5).cast e.out
  · simp only [World.setCells]
    exact below_setCell (below_setCell (below_setCell (below_setCell (below_setCell (below_setCell hM.out.below (by show _ ≤ b; omega) _) (by show _ ≤ b; omega) _) (by show _ ≤ b; omega) _) (by show _ ≤ b; omega) _) (by show _ ≤ b; omega) _) (by show _ ≤ b; omega) _
  · show _ = _
    simp [World.setCells, World.setCell]
end
end Go.Proofs.Ytoamigfjpcniaaa
