/-
  trie.Copy, (*Ways).Copy: contracts. Conditions: none.
-/
import Derived.Test.YthnjepehiddogaaTsE
set_option linter.unusedVariables false
set_option linter.unusedSimpArgs false
namespace Go.Proofs.Ythnjepehiddogaa
open Go.RowKit Go.MapKept

attribute [local go_sem] Oper.semAt_some wide_fn

/-- what is held once a list of items has been set, one after the other -/
def PM (pre : List (Tp × Int)) : Tp → Int → Prop := pre.foldl (fun M x => setM M (fx x).1 (fx x).2) (fun _ _ => False)
theorem PM_snoc (pre : List (Tp × Int)) (x : Tp × Int) : PM (pre ++ [x]) = setM (PM pre) (fx x).1 (fx x).2 := by
  unfold PM
  rw [List.foldl_append]
  rfl
theorem PM_mem (M : Tp → Int → Prop) (hM : ∀ q x y, M q x → M q y → x = y) : ∀ (n : Nat) (pre : List (Tp × Int)), pre.length = n → (∀ x ∈ pre, good x ∧ M x.1 x.2) → ∀ q x, PM pre q x ↔ (q, x) ∈ pre := by
  intro n
  induction n with
  | zero =>
    intro pre hn hp q x
    rw [List.length_eq_zero_iff.1 hn]
    simp [PM]
  | succ n ih =>
    intro pre hn hp q x
    obtain ⟨pre, y, rfl⟩ : ∃ p y, pre = p ++ [y] := ⟨pre.dropLast, pre.getLast (by intro e; rw [e] at hn; cases hn), (List.dropLast_concat_getLast _).symm⟩
    have hy := hp y (by simp)
    rw [PM_snoc, fx_of hy.1]
    unfold setM
    rw [ih pre (by simpa using hn) (fun z hz => hp z (by simp [hz])) q x]
    rw [List.mem_append, List.mem_singleton]
    constructor
    · rintro (⟨rfl, rfl⟩ | ⟨_, h⟩)
      · exact Or.inr rfl
      · exact Or.inl h
    · rintro (h | h)
      · by_cases hq : q = y.1
        · have hm := (hp (q, x) (by simp [h])).2
          exact Or.inl ⟨hq, hM q x y.2 hm (by rw [hq]; exact hy.2)⟩
        · exact Or.inr ⟨hq, h⟩
      · rw [← h]
        exact Or.inl ⟨rfl, rfl⟩
theorem TreeAt.cellsX {w : World} : ∀ {T : Tt Int} {S : List Nat} {q : Value}, TreeAt w S q T → ∀ x ∈ S, ∃ o : Obj, w.heap[x]? = some o ∧ o.isCells = true
  | .nil, S, q, h, x, hx => by
    obtain ⟨rfl, _⟩ := h
    cases hx
  | .node a has v l r, S, q, h, x, hx => by
    obtain ⟨b, Sl, Sr, ql, qr, rfl, _, hc, hl, hr, _⟩ := h
    rcases List.mem_cons.1 hx with rfl | hx
    · exact ⟨_, hc, rfl⟩
    · rcases List.mem_append.1 hx with hx | hx
      · exact hl.cellsX x hx
      · exact hr.cellsX x hx
theorem TrieAt.cellsX {w : World} {bt base : Nat} {v : Value} {n : Int} {R : List Rt} (h : TrieAt w bt base v n R) : ∀ x, trX bt v R x → ∃ o : Obj, w.heap[x]? = some o ∧ o.isCells = true := by
  rintro x (rfl | hx | ⟨r, hr, hx⟩)
  · exact ⟨_, h.c, rfl⟩
  · obtain ⟨_, ⟨rfl, _⟩ | ⟨g, cap, cur, fr, rfl, _, hg, _⟩⟩ := h.o
    · cases hx
    · have e : g = x := by simpa [Value.ownBlock] using hx
      exact ⟨_, e ▸ hg, rfl⟩
  · exact (h.t r hr).cellsX x hx
/-- not a block that holds no cells -/
theorem not_row {w : World} {B x : Nat} {row : Option Nat} (hr : ∀ r, row = some r → B ≤ r ∧ ∃ o : Obj, w.heap[r]? = some o ∧ o.isCells = false) (h : ∃ o : Obj, w.heap[x]? = some o ∧ o.isCells = true) : some x ≠ row := fun e => by
  obtain ⟨_, o, ho, hc⟩ := hr x e.symm
  obtain ⟨o', ho', hc'⟩ := h
  rw [ho] at ho'
  cases ho'
  rw [hc] at hc'
  cases hc'
/-- a copy under way -/
def CpI (w : World) (pre : List (Tp × Int)) (W : World) : Prop :=
  (∃ v n R, TrieAt W w.heap.size w.heap.size v n R ∧ (∀ q x, RMem R q x ↔ PM pre q x) ∧ (∀ x, trX w.heap.size v R x → w.heap.size ≤ x ∧ x ≠ w.heap.size + 1)) ∧
  CellsAt W (w.heap.size + 1) #[.pointer (some ⟨w.heap.size, 0, none⟩)] 48 ∧ Below w.heap.size w W
theorem CpI.from (w : World) (B : Nat) (hB : w.heap.size ≤ B) : OwnFrom B (CpI w) := by
  rintro pre W W' row ⟨⟨v, n, R, h1, h2, h3⟩, h4, h5⟩ hg hr
  refine ⟨⟨v, n, R, h1.keep fun x hx => hg.block x (h1.lt x hx) (not_row hr (h1.cellsX x hx)), h2, h3⟩, (hg.block _ h4.lt (not_row hr ⟨_, h4, rfl⟩)).trans h4, ?_⟩
  exact ownFrom_below (β := Unit) (Nat.le_refl _) hB () W W' row h5 hg hr
/-- the round's own box -/
def CpA (w : World) (x : Tp × Int) (a' : Act) (W : World) (tm : Nat → Array Value) : Prop :=
  ∃ Bx, CellsAt W Bx #[.int .i64 (fx x).1.fam, .int .u64 (fx x).1.rd, .string (fx x).1.addr, .int .i64 ((fx x).1.len : Nat)] 30 ∧ a' = { tmps := tm Bx, defers := [] }
theorem CpA.from (w : World) (B : Nat) (x : Tp × Int) (a' : Act) (tm : Nat → Array Value) : OwnFrom B (fun (_ : Unit) W => CpA w x a' W tm) := by
  rintro _ W W' row ⟨Bx, h1, h2⟩ hg hr
  exact ⟨Bx, (hg.block _ h1.lt (not_row hr ⟨_, h1, rfl⟩)).trans h1, h2⟩
theorem keepsFrom_grownX {X : Nat → Prop} {W W' : World} {B : Nat} (h : GrownX X W W') (hx : ∀ x, X x → ∃ o : Obj, W.heap[x]? = some o ∧ o.isCells = true) : KeepsFrom B W W' :=
  ⟨h.size, fun k o _ hk ho => (h.block k (Array.getElem?_eq_some_iff.1 hk).1 fun hX => by
    obtain ⟨o', h1, h2⟩ := hx k hX
    rw [hk] at h1
    cases h1
    rw [ho] at h2
    cases h2).trans hk⟩
def TCopyPost (w : World) (R : List Rt) (e : Ending) (w' : World) : Prop :=
  e = .returned (.pointer (some ⟨w.heap.size, 0, none⟩)) ∧ Below w.heap.size w w' ∧ ∃ v n R', TrieAt w' w.heap.size w.heap.size v n R' ∧ (∀ q x, RMem R' q x ↔ RMem R q x) ∧ ∀ x, trX w.heap.size v R' x → w.heap.size ≤ x
theorem tcopy_new (w : World) (cs : Array Value) : CpI w [] (((w.alloc (.cells #[.bool true, .slice none 0 0, .int .i64 0] 66)).alloc (.cells #[.pointer (some ⟨w.heap.size, 0, none⟩)] 48)).alloc (.cells cs 48)) := by
  refine ⟨⟨.slice none 0 0, 0, [], ⟨((CellsAt.new w _ _).alloc _).alloc _, OwnM.nil _ _ _ _, ?_, ?_, ?_, List.Pairwise.nil, List.Pairwise.nil, ?_, ?_, ?_⟩, ?_, ?_⟩, (CellsAt.new' _ _ (by simp) _ _).alloc _, (((Below.refl _ w).alloc (Nat.le_refl _) _).alloc (by simp) _).alloc (by simp; omega) _⟩
  · intro r hr; cases hr
  · intro r hr; cases hr
  · intro r hr; cases hr
  · intro r hr; cases hr
  · intro r hr; cases hr
  · intro k hk; cases hk
  · intro q x
    constructor
    · rintro ⟨r, hr, _⟩
      cases hr
    · exact False.elim
  · rintro x (rfl | h | ⟨r, hr, _⟩)
    · omega
    · cases h
    · cases hr
set_option maxRecDepth 100000 in
set_option maxHeartbeats 4000000 in
theorem tcopy_any (bt base : Nat) (v : Value) (nn : Int) (R : List Rt) (w : World) (h : TrieAt w bt base v nn R) (hM : ∀ q x y, RMem R q x → RMem R q y → x = y) :
    Calls Try.prog 27 #[.pointer (some ⟨bt, 0, none⟩)] w (TCopyPost w R) := by
  have hdd : ∀ k : Nat, (Fence.wide.depth.isSome = true → 1 ≤ k) := fun k h => by cases h
  obtain ⟨t0, t1, t2, _⟩ := h.c3
  have HT := Lib.hid h
  have HNO := Lib.hid (tnone_any bt w t0)
  have HM := Lib.hid hM
  clear h hM
  refine (callsIn_wide (n := 5)).1 ?_
  refine callsIn_of_wp_marks Try.func27 rfl trivial ?_ rfl
  simp only [Try.ntmps27, List.size_toArray, List.length_cons, List.length_nil, Nat.reduceAdd, Nat.reduceSub, Array.replicate_succ, Array.replicate_zero, List.push_toArray, List.append_toArray, List.nil_append, List.cons_append]
  gi_wp2_with (first
    | ((try refine ⟨hdd _, ?_⟩); gi_at_call 30; refine (callsIn_wide.2 HNO.out).mono ?_; rintro e W9 ⟨rfl, h9⟩; have h9 := h9.symm; subst h9)
    | ((try refine ⟨hdd _, ?_⟩); gi_at_call 17; refine (callsIn_wide.2 (tnew_any _)).mono ?_; rintro e W8 ⟨rfl, h8⟩; subst h8)
    | ((try refine ⟨hdd _, ?_⟩); gi_at_call 42; refine (all_any _ _ _).mono ?_; rintro e W7 ⟨rfl, h7⟩; subst h7))
  have HI0 := Lib.hid (tcopy_new w #[.pointer (some ⟨bt, 0, none⟩)])
  have hbx : CellsAt (((w.alloc (.cells #[.bool true, .slice none 0 0, .int .i64 0] 66)).alloc (.cells #[.pointer (some ⟨w.heap.size, 0, none⟩)] 48)).alloc (.cells #[.pointer (some ⟨bt, 0, none⟩)] 48)) (w.heap.size + 1 + 1) #[.pointer (some ⟨bt, 0, none⟩)] 48 := CellsAt.new' _ _ (by simp) _ _
  obtain ⟨W0, hW0⟩ : ∃ W0, W0 = (((w.alloc (.cells #[.bool true, .slice none 0 0, .int .i64 0] 66)).alloc (.cells #[.pointer (some ⟨w.heap.size, 0, none⟩)] 48)).alloc (.cells #[.pointer (some ⟨bt, 0, none⟩)] 48)) := ⟨_, rfl⟩
  have hsz : W0.heap.size = w.heap.size + 3 := by rw [hW0]; simp
  rw [← hW0] at HI0 hbx ⊢
  clear hW0 t0 t1 t2 HNO
  have HT0 : Hid (TrieAt W0 bt base v nn R) := HT.out.below HI0.out.2.2
  refine wpIn_rangeFunc_ownH (hro := rfl) (by decide) (gf := 45) (lb := #[.pointer (some ⟨w.heap.size + 1 + 1, 0, none⟩)]) rfl trivial (enters_of Try.func45 (by kernel_rfl) rfl)
    (all_stops _ (w.heap.size + 1 + 1) w.heap.size bt base v nn R W0 (by omega) (by omega) hbx.c1 HT0.out (fun x hx => HT.out.lt x hx)) belowK_t (belowK_b (by omega)) (Below.refl _ _) (fun _ => rfl)
    (CpI w) (fun _ _ _ => False) (CpI.from w _ (by omega)) (fun _ _ _ _ _ hs _ _ => hs) HI0.out
    (fun x a' W => CpA w x a' W fun Bx => #[.pointer (some ⟨bt, 0, none⟩), undef, .pointer none, .pointer (some ⟨w.heap.size + 1, 0, none⟩), .pointer (some ⟨Bx, 0, none⟩), .int .i64 (fx x).2, .pointer (some ⟨bt, 0, none⟩), .bool false,
      .pointer (some ⟨w.heap.size, 0, none⟩), .pointer (some ⟨bt, 0, none⟩), .func (.func 45) #[] #[.pointer (some ⟨w.heap.size + 1 + 1, 0, none⟩)], (fx x).1.v, .int .i64 (fx x).2, undef, undef, undef, undef, undef])
    (fun x a' => CpA.from w _ x a' _) ?assign ?body ?done ?stop
  case assign =>
    intro l pre x W K hi hK
    simp only [encI, Tp.v]
    simp only [CpA, Tp.v] at hK
    generalize fx x = y at hK ⊢
    obtain ⟨⟨f, d, ad, ln⟩, u⟩ := y
    simp only at hK ⊢
    have hlt2 : w.heap.size ≤ W.heap.size := hi.2.2.size
    have HI2 := Lib.hid ((CpI.from w w.heap.size (Nat.le_refl _)).alloc (.cells #[.int .i64 f, .int .u64 d, .string ad, .int .i64 (ln : Nat)] 30) hi)
    have HK := Lib.hid hK
    clear hK hi
    gi_wp2
    exact HK.out _ _ ((KeepsOthers.alloc _ _).from _) ((Below.refl _ W).alloc hlt2 _) HI2.out ⟨W.heap.size, CellsAt.new _ _ _, rfl⟩
  case body =>
    rintro l pre x a' W hl ⟨r, hr⟩ hi ⟨Bx, hBx, rfl⟩ hlt
    have hgx := fx_good x
    have HPS := Lib.hid (PM_snoc pre x)
    obtain ⟨⟨v1, n1, R1, hT1, hm1, hx1⟩, hu, hB⟩ := hi
    have HS := Lib.hid (tset_any (fx x).1 hgx.1 hgx.2 (fx x).2 w.heap.size w.heap.size v1 n1 R1 W hT1 hB.size)
    simp only [Tp.v] at HS ⊢
    generalize fx x = y at *
    obtain ⟨⟨f, d, ad, ln⟩, u⟩ := y
    simp only at HS HPS hBx ⊢
    obtain ⟨p0, p1, p2, p3, _⟩ := c4_at hBx
    have hc1 := hu.c1
    have HU := Lib.hid hu
    have HT1 := Lib.hid hT1
    have HM1 := Lib.hid hm1
    have HX1 := Lib.hid hx1
    have HB := Lib.hid hB
    clear hu hT1 hm1 hx1 hB hgx
    gi_wp2_with ((try refine ⟨hdd _, ?_⟩); gi_at_call 19; refine (CallsIn.inRound l (callsIn_wide.2 HS.out)).mono ?_; rintro e W9 ⟨v', n', R', rfl, hL, hm⟩)
    refine ⟨keepsFrom_grownX hL.g HT1.out.cellsX, hL.g.below (Below.refl _ W) (fun i hi => (HX1.out i hi).1) HB.out.size, ⟨v', n', R', hL.t, fun q z => ?_, fun z hz => ?_⟩, HU.out.grownX hL.g (fun hX => (HX1.out _ hX).2 rfl), hL.g.below HB.out (fun i hi => (HX1.out i hi).1) HB.out.size⟩
    · rw [HPS.out, hm]
      unfold setM
      rw [HM1.out]
    · rcases hL.s z hz with h | h
      · exact HX1.out z h
      · have k1 := HB.out.size
        have k2 := HU.out.lt
        exact ⟨by omega, by omega⟩
  case done =>
    rintro D ys W hD rfl hi hK
    have hc1 := hi.2.1.c1
    have HI := Lib.hid hi
    clear hi
    gi_wp2
    refine ⟨by simp, .inl ⟨_, _, rfl, run_takeDeferred hK, ?_⟩⟩
    refine ⟨_, results_tmp rfl _ _ _, rfl, ?_⟩
    obtain ⟨⟨v1, n1, R1, hT1, hm1, hx1⟩, hu, hB⟩ := (CpI.from w W0.heap.size (by omega)).putObj (.deferred none) HI.out hD hK rfl
    refine ⟨hB, v1, n1, R1, hT1, fun q x => (hm1 q x).trans ?_, fun x hx => (hx1 x hx).1⟩
    refine (PM_mem (RMem R) HM.out _ (rItems R) rfl (fun x hx => ?_) q x).trans rItems_mem
    have h2 : RMem R x.1 x.2 := rItems_mem.1 hx
    obtain ⟨r, hr, hm⟩ := h2
    exact ⟨HT.out.good hr x (Tt.items_mem.2 hm), r, hr, hm⟩
  case stop =>
    rintro D c pre W _ _ h _
    exact h.elim
def CopyPost (w : World) (M : Tp → Int → Prop) (e : Ending) (w' : World) : Prop :=
  ∃ bw X, e = .returned (.pointer (some ⟨bw, 0, none⟩)) ∧ WaysIs w' bw M X ∧ (∀ x, X x → w.heap.size ≤ x) ∧ Below w.heap.size w w'
set_option maxRecDepth 100000 in
set_option maxHeartbeats 4000000 in
theorem wcopy_any (bw : Nat) (M : Tp → Int → Prop) (X : Nat → Prop) (w : World) (h : WaysIs w bw M X) (hM : ∀ q x y, M q x → M q y → x = y) :
    Calls Try.prog 14 #[.pointer (some ⟨bw, 0, none⟩)] w (CopyPost w M) := by
  obtain ⟨bt, base, v, n, R, ha, hm, hx⟩ := h
  have HNO := Lib.hid (wnone_any bw ⟨bt, 0, none⟩ w ha.c.c1)
  have c0 := ha.c.c1
  have HC := Lib.hid (tcopy_any bt base v n R w ha.t (fun q x y h1 h2 => hM q x y ((hm q x).1 h1) ((hm q y).1 h2)))
  have HM := Lib.hid hm
  clear hm hx ha hM
  go_enter Try.func14, Try.ntmps14
  go_wp2_with fail
  refine HNO.out.mono ?_
  rintro e w1 ⟨rfl, hw1⟩
  have hw1 := hw1.symm
  subst hw1
  go_wp2_with fail
  refine HC.out.mono ?_
  rintro e w2 ⟨rfl, hb, v2, n2, R2, hT, hm2, hx2⟩
  have hsz := hb.size
  have hlt := hT.c.lt
  have HB := Lib.hid hb
  have HT := Lib.hid hT
  have HX := Lib.hid hx2
  have HM2 := Lib.hid hm2
  clear hb hT hx2 hm2
  go_wp2_with fail
  go_ret
  refine ⟨w2.heap.size, fun x => x = w2.heap.size ∨ trX w.heap.size v2 R2 x, rfl, ⟨w.heap.size, w.heap.size, v2, n2, R2, ⟨CellsAt.new _ _ _, HT.out.below ((Below.refl _ _).alloc (Nat.le_refl _) _), by simp; omega, fun k => Nat.lt_irrefl _ (HT.out.lt _ k)⟩, fun q x => (HM2.out q x).trans (HM.out q x), fun x => Iff.rfl⟩, ?_, HB.out.alloc hsz _⟩
  rintro x (rfl | h)
  · exact hsz
  · exact HX.out x h
end Go.Proofs.Ythnjepehiddogaa
