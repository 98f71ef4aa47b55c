/-
  WaysPlay: the ways and the document's list side by side. Conditions: sizes.
-/
import Derived.Test.YthnjepehiddogaaTsC
import Derived.Test.YthnjepehiddogaaTsF
set_option linter.unusedVariables false
set_option linter.unusedSimpArgs false
namespace Go.Proofs.Ythnjepehiddogaa
open Go.RowKit Go.MapKept

theorem WL.keepv {w w' : World} {base : Nat} {v : Value} {L : List (Tp × Int)} (h : WL w base v L) (hk : ∀ k, v.ownBlock = some k → w'.heap[k]? = w.heap[k]?) : WL w' base v L := by
  obtain ⟨hlen, ⟨rfl, h0⟩ | ⟨g, cap, cur, fr, rfl, hb, hg, r⟩⟩ := h
  · exact ⟨hlen, .inl ⟨rfl, h0⟩⟩
  · exact ⟨hlen, .inr ⟨g, cap, cur, fr, rfl, hb, (hk g rfl).trans hg, r⟩⟩
theorem WL.base {w : World} {a b : Nat} {v : Value} {L : List (Tp × Int)} (h : WL w b v L) (hab : a ≤ b) : WL w a v L := by
  obtain ⟨hlen, h0 | ⟨g, cap, cur, fr, e, hb, r⟩⟩ := h
  · exact ⟨hlen, .inl h0⟩
  · exact ⟨hlen, .inr ⟨g, cap, cur, fr, e, Nat.le_trans hab hb, r⟩⟩
theorem WL.own {w : World} {base k : Nat} {v : Value} {L : List (Tp × Int)} (h : WL w base v L) (hk : v.ownBlock = some k) : base ≤ k ∧ k < w.heap.size := by
  obtain ⟨hlen, ⟨rfl, h0⟩ | ⟨g, cap, cur, fr, rfl, hb, hg, r⟩⟩ := h
  · cases hk
  · have e : g = k := by simpa [Value.ownBlock] using hk
    exact e ▸ ⟨hb, (Array.getElem?_eq_some_iff.1 hg).1⟩
/-- both in memory -/
def PlayM (w0 w : World) (bw : Nat) (M : Tp → Int → Prop) (v : Value) (L : List (Tp × Int)) : Prop :=
  ∃ X, WaysIs w bw M X ∧ (∀ x, X x → w0.heap.size ≤ x) ∧ (∀ k, v.ownBlock = some k → ¬ X k) ∧ WL w w0.heap.size v L ∧ Below w0.heap.size w0 w
/-- .. and the step's cells -/
def PlayB (w0 w : World) (bw : Nat) (M : Tp → Int → Prop) (v : Value) (L : List (Tp × Int)) (b : Nat) (cs : Array Value) (T : TypeId) : Prop :=
  ∃ X, WaysIs w bw M X ∧ (∀ x, X x → w0.heap.size ≤ x) ∧ (∀ k, v.ownBlock = some k → ¬ X k) ∧ WL w w0.heap.size v L ∧ Below w0.heap.size w0 w ∧ CellsAt w b cs T ∧ ¬ X b
/-- .. and ways that are played with -/
def SideB (w0 w : World) (bo bw : Nat) (M : Tp → Int → Prop) (v : Value) (L : List (Tp × Int)) (b : Nat) (cs : Array Value) (T : TypeId) : Prop :=
  ∃ Mo Xo X, WaysIs w bo Mo Xo ∧ (∀ x, Xo x → w0.heap.size ≤ x) ∧ (∀ x, X x → ¬ Xo x) ∧ (∀ k, v.ownBlock = some k → ¬ Xo k) ∧ ¬ Xo b ∧ WaysIs w bw M X ∧ (∀ x, X x → w0.heap.size ≤ x) ∧ (∀ k, v.ownBlock = some k → ¬ X k) ∧ WL w w0.heap.size v L ∧ Below w0.heap.size w0 w ∧ CellsAt w b cs T ∧ ¬ X b
section
variable {w0 w w' : World} {bw bo : Nat} {M N : Tp → Int → Prop} {v v' : Value} {L L' : List (Tp × Int)} {b : Nat} {cs : Array Value} {T : TypeId}
theorem PlayM.box (h : PlayM w0 w bw M v L) (cs : Array Value) (T : TypeId) : PlayB w0 (w.alloc (.cells cs T)) bw M v L w.heap.size cs T := by
  obtain ⟨X, h1, h2, h3, h4, h5⟩ := h
  have hb := (Below.refl w.heap.size w).alloc (Nat.le_refl _) (.cells cs T)
  exact ⟨X, h1.below hb, h2, h3, h4.below hb (Nat.le_refl _), h5.trans (hb.mono h5.size), CellsAt.new w cs T, fun k => Nat.lt_irrefl _ (h1.lt _ k)⟩
theorem PlayB.play (h : PlayB w0 w bw M v L b cs T) : PlayM w0 w bw M v L := by
  obtain ⟨X, h1, h2, h3, h4, h5, _⟩ := h
  exact ⟨X, h1, h2, h3, h4, h5⟩
theorem PlayB.cells (h : PlayB w0 w bw M v L b cs T) : CellsAt w b cs T := h.elim fun _ h => h.2.2.2.2.2.1
theorem PlayM.below_ (h : PlayM w0 w bw M v L) : Below w0.heap.size w0 w := h.elim fun _ h => h.2.2.2.2
theorem PlayB.list (h : PlayB w0 w bw M v L b cs T) : WL w w0.heap.size v L := h.elim fun _ h => h.2.2.2.1
theorem PlayB.below (h : PlayB w0 w bw M v L b cs T) (hb : Below w.heap.size w w') : PlayB w0 w' bw M v L b cs T := by
  obtain ⟨X, h1, h2, h3, h4, h5, h6, h7⟩ := h
  exact ⟨X, h1.below hb, h2, h3, h4.below hb (Nat.le_refl _), h5.trans (hb.mono h5.size), h6.below hb h6.lt, h7⟩
theorem PlayB.same' (h : PlayB w0 w bw M v L b cs T) (e : ∀ q x, M q x ↔ N q x) : PlayB w0 w bw N v L b cs T := by
  obtain ⟨X, h1, h2⟩ := h
  exact ⟨X, h1.same e, h2⟩
theorem PlayB.list_ (h : PlayB w0 w bw M v L b cs T) (hb : Below w.heap.size w w') (hl : WL w' w.heap.size v' L') : PlayB w0 w' bw M v' L' b cs T := by
  obtain ⟨X, h1, h2, h3, h4, h5, h6, h7⟩ := h
  exact ⟨X, h1.below hb, h2, fun k hv hx => by
    have := h1.lt k hx
    have := (hl.own hv).1
    omega, hl.base h5.size, h5.trans (hb.mono h5.size), h6.below hb h6.lt, h7⟩
theorem SideB.play (h : SideB w0 w bo bw M v L b cs T) : PlayB w0 w bw M v L b cs T := by
  obtain ⟨Mo, Xo, X, _, _, _, _, _, h1, h2, h3, h4, h5, h6, h7⟩ := h
  exact ⟨X, h1, h2, h3, h4, h5, h6, h7⟩
theorem PlayB.turn {X X' : Nat → Prop} (h1 : WaysIs w bw M X) (h2 : ∀ x, X x → w0.heap.size ≤ x) (h3 : ∀ k, v.ownBlock = some k → ¬ X k) (h4 : WL w w0.heap.size v L) (h5 : Below w0.heap.size w0 w) (h6 : CellsAt w b cs T) (h7 : ¬ X b)
    (k1 : WaysIs w' bw N X') (k2 : GrownX X w w') (k3 : ∀ x, X' x → X x ∨ w.heap.size ≤ x) : PlayB w0 w' bw N v L b cs T := by
  refine ⟨X', k1, fun x hx => (k3 x hx).elim (h2 x) fun e => Nat.le_trans h5.size e, fun k hv hx => ?_, h4.keepv fun k hv => k2.block k (h4.own hv).2 (h3 k hv), k2.below h5 h2 h5.size, h6.grownX k2 h7, fun hx => ?_⟩
  · rcases k3 k hx with e | e
    · exact h3 k hv e
    · exact absurd (h4.own hv).2 (by omega)
  · rcases k3 b hx with e | e
    · exact h7 e
    · exact absurd h6.lt (by omega)
theorem SideB.turn {Xo Xo' X : Nat → Prop}
    (g2 : ∀ x, Xo x → w0.heap.size ≤ x) (g3 : ∀ x, X x → ¬ Xo x) (g4 : ∀ k, v.ownBlock = some k → ¬ Xo k) (g5 : ¬ Xo b) (h1 : WaysIs w bw M X) (h2 : ∀ x, X x → w0.heap.size ≤ x) (h3 : ∀ k, v.ownBlock = some k → ¬ X k) (h4 : WL w w0.heap.size v L) (h5 : Below w0.heap.size w0 w) (h6 : CellsAt w b cs T) (h7 : ¬ X b)
    (k1 : WaysIs w' bo N Xo') (k2 : GrownX Xo w w') (k3 : ∀ x, Xo' x → Xo x ∨ w.heap.size ≤ x) : SideB w0 w' bo bw M v L b cs T := by
  refine ⟨N, Xo', X, k1, fun x hx => (k3 x hx).elim (g2 x) fun e => Nat.le_trans h5.size e, fun x hx hxo => ?_, fun k hv hx => ?_, fun hx => ?_, h1.grownX k2 g3, h2, h3, h4.keepv fun k hv => k2.block k (h4.own hv).2 (g4 k hv), k2.below h5 g2 h5.size, h6.grownX k2 g5, h7⟩
  · rcases k3 x hxo with e | e
    · exact g3 x hx e
    · exact absurd (h1.lt x hx) (by omega)
  · rcases k3 k hx with e | e
    · exact g4 k hv e
    · exact absurd (h4.own hv).2 (by omega)
  · rcases k3 b hx with e | e
    · exact g5 e
    · exact absurd h6.lt (by omega)
end
theorem wpx_tp {y : Tp × Int} {p : Px} (h0 : 0 ≤ p.len) : wpx y = p ↔ y.1 = p.tp := by
  obtain ⟨⟨f, d, a, l⟩, u⟩ := y
  obtain ⟨pf, pd, pa, pl⟩ := p
  simp only [wpx, Px.tp, Px.mk.injEq, Tp.mk.injEq] at h0 ⊢
  constructor
  · rintro ⟨rfl, rfl, rfl, h⟩
    exact ⟨rfl, rfl, rfl, by omega⟩
  · rintro ⟨rfl, rfl, rfl, h⟩
    exact ⟨rfl, rfl, rfl, by omega⟩
theorem but_lmem {p : Px} (h0 : 0 ≤ p.len) {L : List (Tp × Int)} (q : Tp) (x : Int) : LMem (but p L) q x ↔ q ≠ p.tp ∧ LMem L q x := by
  unfold LMem
  rw [but_mem, Ne, wpx_tp h0]
theorem but_lmem_bad {p : Px} {L : List (Tp × Int)} (hL : Flat (LMem L)) (hno : ¬ PrefOk p.fam p.rd p.addr p.len) : but p L = L := by
  unfold but
  rw [List.filter_eq_self]
  intro y hy
  refine decide_eq_true fun e => hno ?_
  have := hL.ok y.1 y.2 hy
  rw [← e]
  exact this
def AddRel (p : Px) (cost : Int) (L : List (Tp × Int)) (k : Int) (L' : List (Tp × Int)) : Prop :=
  (¬ wOk p.fam p.rd p.addr p.len cost ∧ k = 2 ∧ L' = L) ∨ (wOk p.fam p.rd p.addr p.len cost ∧ k = 0 ∧ L' = but p L ++ [(p.tp, cost)])
theorem AddRel.len {p : Px} {cost k : Int} {L L' : List (Tp × Int)} (h : AddRel p cost L k L') : L'.length ≤ L.length + 1 := by
  rcases h with ⟨_, _, rfl⟩ | ⟨_, _, rfl⟩
  · omega
  · have := but_le p L
    simp
    omega
theorem add_lmem {p : Px} (h0 : 0 ≤ p.len) {cost : Int} {L : List (Tp × Int)} (q : Tp) (x : Int) : LMem (but p L ++ [(p.tp, cost)]) q x ↔ setM (LMem L) p.tp cost q x := by
  have := but_lmem h0 (L := L) q x
  unfold LMem at this ⊢
  unfold setM
  rw [List.mem_append, this, List.mem_singleton, Prod.mk.injEq]
  exact Or.comm
theorem AddRel.flat {p : Px} {cost k : Int} {L L' : List (Tp × Int)} (h : AddRel p cost L k L') (hL : Flat (LMem L)) : Flat (LMem L') := by
  rcases h with ⟨_, _, rfl⟩ | ⟨hw, _, rfl⟩
  · exact hL
  · have h0 : 0 ≤ p.len := hw.1.2.2.1
    have hs := hL.set (Px.tp_ok hw) cost
    exact ⟨fun q x h => hs.ok q x ((add_lmem h0 q x).1 h), fun q x y h h2 => hs.fn q x y ((add_lmem h0 q x).1 h) ((add_lmem h0 q y).1 h2)⟩
theorem but_flat {p : Px} {L : List (Tp × Int)} (hL : Flat (LMem L)) : Flat (LMem (but p L)) :=
  ⟨fun q x h => hL.ok q x (but_mem.1 h).2, fun q x y h h2 => hL.fn q x y (but_mem.1 h).2 (but_mem.1 h2).2⟩

section
variable {w0 w : World} {bw bo : Nat} {v : Value} {L : List (Tp × Int)} {b : Nat} {cs : Array Value} {T : TypeId}
theorem r_add (p : Px) (hp : p.In) (cost : Int) {M : Tp → Int → Prop} (h : PlayB w0 w bw M v L b cs T) (hll : L.length ≤ 999999) :
    Calls Try.prog 12 #[v, p.v, .int .i64 cost] w fun e w' => ∃ v' k L', AddRel p cost L k L' ∧ e = .returned (.tuple #[v', .int .i64 k]) ∧ PlayB w0 w' bw M v' L' b cs T :=
  (radd_any p hp.addr cost L _ v w h.list hll).mono fun e w' ⟨hb, hk⟩ => by
    rcases hk with ⟨hn, rfl⟩ | ⟨hy, v', rfl, hl⟩
    · exact ⟨v, 2, L, Or.inl ⟨hn, rfl, rfl⟩, rfl, h.below hb⟩
    · exact ⟨v', 0, _, Or.inr ⟨hy, rfl, rfl⟩, rfl, h.list_ hb hl⟩
theorem p_add (p : Px) (hp : p.In) {cost k : Int} {L0 : List (Tp × Int)} (h : PlayB w0 w bw (LMem L0) v L b cs T) (hr : AddRel p cost L0 k L) :
    Calls Try.prog 8 #[.pointer (some ⟨bw, 0, none⟩), p.v, .int .i64 cost] w fun e w' => e = .returned (.int .i64 k) ∧ PlayB w0 w' bw (LMem L) v L b cs T := by
  obtain ⟨X, h1, h2, h3, h4, h5, h6, h7⟩ := id h
  refine (add_any p.fam p.rd p.addr p.len cost hp.addr bw _ X w h1).mono fun e w' hk => ?_
  rcases hk with ⟨hn, rfl, hb⟩ | ⟨hy, rfl, X', k1, k2, k3⟩
  · rcases hr with ⟨_, rfl, rfl⟩ | ⟨hw, _⟩
    · exact ⟨rfl, h.below hb⟩
    · exact absurd hw hn
  · rcases hr with ⟨hw, _⟩ | ⟨hw, rfl, rfl⟩
    · exact absurd hy hw
    · have h0 : 0 ≤ p.len := hw.1.2.2.1
      exact ⟨rfl, PlayB.turn h1 h2 h3 h4 h5 h6 h7 (k1.same fun q x => (add_lmem h0 q x).symm) k2 k3⟩
theorem s_add (p : Px) (hp : p.In) (cost : Int) {M : Tp → Int → Prop} (h : SideB w0 w bo bw M v L b cs T) :
    Calls Try.prog 8 #[.pointer (some ⟨bo, 0, none⟩), p.v, .int .i64 cost] w fun e w' => ∃ k, e = .returned (.int .i64 k) ∧ SideB w0 w' bo bw M v L b cs T := by
  obtain ⟨Mo, Xo, X, g1, g2, g3, g4, g5, h1, h2, h3, h4, h5, h6, h7⟩ := h
  refine (add_any p.fam p.rd p.addr p.len cost hp.addr bo _ Xo w g1).mono fun e w' hk => ?_
  rcases hk with ⟨hn, rfl, hb⟩ | ⟨hy, rfl, X', k1, k2, k3⟩
  · exact ⟨2, rfl, SideB.turn g2 g3 g4 g5 h1 h2 h3 h4 h5 h6 h7 (g1.below hb) (GrownX.of_below hb) (fun x hx => Or.inl hx)⟩
  · exact ⟨0, rfl, SideB.turn g2 g3 g4 g5 h1 h2 h3 h4 h5 h6 h7 k1 k2 k3⟩
theorem s_del (p : Px) (hp : p.In) {M : Tp → Int → Prop} (h : SideB w0 w bo bw M v L b cs T) :
    Calls Try.prog 11 #[.pointer (some ⟨bo, 0, none⟩), p.v] w fun e w' => ∃ g, e = .returned (.bool g) ∧ SideB w0 w' bo bw M v L b cs T := by
  obtain ⟨Mo, Xo, X, g1, g2, g3, g4, g5, h1, h2, h3, h4, h5, h6, h7⟩ := h
  refine (wdel_any p hp.addr bo _ Xo w g1).mono fun e w' hk => ?_
  rcases hk with ⟨hn, rfl, hb⟩ | ⟨hy, g, X', rfl, k1, k2, k3, _⟩
  · exact ⟨false, rfl, SideB.turn g2 g3 g4 g5 h1 h2 h3 h4 h5 h6 h7 (g1.below hb) (GrownX.of_below hb) (fun x hx => Or.inl hx)⟩
  · exact ⟨g, rfl, SideB.turn g2 g3 g4 g5 h1 h2 h3 h4 h5 h6 h7 k1 k2 k3⟩
def DelRel (p : Px) (L : List (Tp × Int)) (D : Bool) : Prop := D = true ↔ PrefOk p.fam p.rd p.addr p.len ∧ ∃ x, LMem L p.tp x
theorem delRel (p : Px) (L : List (Tp × Int)) (hL : Flat (LMem L)) : DelRel p L (decide ((but p L).length < L.length)) := by
  unfold DelRel
  rw [decide_eq_true_iff]
  by_cases hok : PrefOk p.fam p.rd p.addr p.len
  · have h0 : 0 ≤ p.len := hok.2.2.1
    constructor
    · intro h
      refine ⟨hok, Classical.byContradiction fun hn => ?_⟩
      have : but p L = L := by
        unfold but
        rw [List.filter_eq_self]
        intro y hy
        refine decide_eq_true fun e => hn ⟨y.2, ?_⟩
        rw [← (wpx_tp h0).1 e]
        exact hy
      rw [this] at h
      omega
    · rintro ⟨_, x, hx⟩
      refine Nat.lt_of_le_of_ne (but_le p L) fun e => ?_
      have : but p L = L := by
        unfold but at e ⊢
        exact List.filter_eq_self.2 (List.length_filter_eq_length_iff.1 e)
      have hx' : (p.tp, x) ∈ but p L := by rw [this]; exact hx
      exact (but_mem.1 hx').1 ((wpx_tp h0).2 rfl)
  · rw [but_lmem_bad hL hok]
    exact ⟨fun h => absurd h (by omega), fun h => absurd h.1 hok⟩
theorem r_del (p : Px) (hp : p.In) {M : Tp → Int → Prop} (h : PlayB w0 w bw M v L b cs T) (hL : Flat (LMem L)) (hll : L.length ≤ 1000000) :
    Calls Try.prog 13 #[v, p.v] w fun e w' => ∃ v' D, DelRel p L D ∧ e = .returned (.tuple #[v', .bool D]) ∧ PlayB w0 w' bw M v' (but p L) b cs T :=
  (rdel_any p L _ v w h.list hll).mono fun e w' ⟨hb, v', he, hl⟩ => ⟨v', _, delRel p L hL, he, h.list_ hb hl⟩
theorem p_del (p : Px) (hp : p.In) {D : Bool} {L0 : List (Tp × Int)} (hL : Flat (LMem L0)) (h : PlayB w0 w bw (LMem L0) v (but p L0) b cs T) (hr : DelRel p L0 D) :
    Calls Try.prog 11 #[.pointer (some ⟨bw, 0, none⟩), p.v] w fun e w' => e = .returned (.bool D) ∧ PlayB w0 w' bw (LMem (but p L0)) v (but p L0) b cs T := by
  obtain ⟨X, h1, h2, h3, h4, h5, h6, h7⟩ := id h
  refine (wdel_any p hp.addr bw _ X w h1).mono fun e w' hk => ?_
  rcases hk with ⟨hn, rfl, hb⟩ | ⟨hy, g, X', rfl, k1, k2, k3, kg⟩
  · have hD : D = false := by
      cases D with
      | false => rfl
      | true => exact absurd (hr.1 rfl).1 hn
    subst hD
    refine ⟨rfl, (h.below hb).same' fun q x => ?_⟩
    rw [but_lmem_bad hL hn]
  · have h0 : 0 ≤ p.len := hy.2.2.1
    have hD : g = D := by
      cases g with
      | true => exact (hr.2 ⟨hy, kg.1 rfl⟩).symm
      | false =>
        cases D with
        | false => rfl
        | true => exact absurd (kg.2 (hr.1 rfl).2) (by decide)
    subst hD
    exact ⟨rfl, PlayB.turn h1 h2 h3 h4 h5 h6 h7 (k1.same fun q x => (but_lmem h0 q x).symm) k2 k3⟩
theorem p_copy {M : Tp → Int → Prop} (h : PlayB w0 w bw M v L b cs T) (hM : ∀ q x y, M q x → M q y → x = y) :
    Calls Try.prog 14 #[.pointer (some ⟨bw, 0, none⟩)] w fun e w' => ∃ bc, e = .returned (.pointer (some ⟨bc, 0, none⟩)) ∧ SideB w0 w' bw bc M v L b cs T := by
  obtain ⟨X, h1, h2, h3, h4, h5, h6, h7⟩ := h
  refine (wcopy_any bw M X w h1 hM).mono fun e w' ⟨bc, Xc, he, k1, k2, hb⟩ => ?_
  refine ⟨bc, he, M, X, Xc, h1.below hb, h2, fun x hx hx2 => ?_, h3, h7, k1, fun x hx => Nat.le_trans h5.size (k2 x hx), fun k hv hx => ?_, h4.below hb (Nat.le_refl _), h5.trans (hb.mono h5.size), h6.below hb h6.lt, fun hx => ?_⟩
  · exact absurd (h1.lt x hx2) (by have := k2 x hx; omega)
  · exact absurd (h4.own hv).2 (by have := k2 k hx; omega)
  · exact absurd h6.lt (by have := k2 b hx; omega)
theorem p_cost {M : Tp → Int → Prop} (next : ByteArray) (h : PlayB w0 w bw M v L b cs T) :
    Calls Try.prog 9 #[.pointer (some ⟨bw, 0, none⟩), .string next] w fun e w' => ∃ x is, CostOf M next x is ∧ e = .returned (.tuple #[.int .i64 x, .bool is]) ∧ PlayB w0 w' bw M v L b cs T := by
  obtain ⟨X, h1, _⟩ := id h
  exact (cost_any next bw M X w h1).mono fun e w' ⟨hb, x, is, he, hc⟩ => ⟨x, is, hc, he, h.below hb⟩
theorem r_cost {M : Tp → Int → Prop} (next : ByteArray) (h : PlayB w0 w bw M v L b cs T) (hL : Flat (LMem L)) (hll : L.length ≤ 1000000) :
    Calls Try.prog 15 #[v, .string next] w fun e w' => ∃ x is, CostOf (LMem L) next x is ∧ e = .returned (.tuple #[.int .i64 x, .bool is]) ∧ PlayB w0 w' bw M v L b cs T :=
  (rcost_any L next _ v w h.list (fun y hy => hL.ok y.1 y.2 hy) hll).mono fun e w' ⟨hb, x, is, he, hc⟩ => ⟨x, is, hc, he, h.below hb⟩
end
theorem play_new (w0 w : World) (hb : Below w0.heap.size w0 w) : PlayM w0 ((w.alloc (.cells #[.bool true, .slice none 0 0, .int .i64 0] 66)).alloc (.cells #[.pointer (some ⟨w.heap.size, 0, none⟩)] 51)) (w.heap.size + 1) (LMem []) (.slice none 0 0) [] := by
  refine ⟨_, (ways_new w).same (fun q x => ?_), ?_, ?_, OwnM.nil _ _ _ _, (hb.alloc hb.size _).alloc (by have := hb.size; simp; omega) _⟩
  · simp [LMem]
  · have := hb.size
    rintro x (rfl | rfl) <;> omega
  · intro k hk
    cases hk
end Go.Proofs.Ythnjepehiddogaa
