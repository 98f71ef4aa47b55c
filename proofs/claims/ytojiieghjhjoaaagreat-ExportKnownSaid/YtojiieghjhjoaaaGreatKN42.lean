/-
  Several texts in one.
-/
import Derived.Test.YtojiieghjhjoaaaGreatKN41
import Derived.Test.YtojiieghjhjoaaaGreatKN18
set_option linter.unusedVariables false
set_option linter.unusedSimpArgs false
namespace Go.Proofs.YtojiieghjhjoaaaGreat
open Go.RowKit Go.MapKept Go.Shelf
open Go.Lib hiding intOf

/-- the three boxes of a law's arguments -/
structure Bu (w V : World) (s : Nat) (g : Cfg) (p : Pth) (t : Pr) : Prop where
  c : CellsAt V s g.us 24
  p : CellsAt V (s + 1) p.ar 37
  t : CellsAt V (s + 1 + 1) t.ar 40
  b : Below w.heap.size w V
  e : s = w.heap.size
  sz : s + 1 + 1 < V.heap.size
theorem Bu.below {w V V' : World} {s : Nat} {g : Cfg} {p : Pth} {t : Pr} (h : Bu w V s g p t) (hb : Below V.heap.size V V') : Bu w V' s g p t := ⟨h.c.below hb h.c.lt, h.p.below hb h.p.lt, h.t.below hb h.t.lt, h.b.trans (hb.mono h.b.size), h.e, Nat.lt_of_lt_of_le h.sz hb.size⟩
theorem Bu.start (w : World) (g : Cfg) (p : Pth) (t : Pr) : Bu w (((w.alloc (.cells g.us 24)).alloc (.cells p.ar 37)).alloc (.cells t.ar 40)) w.heap.size g p t := by
  refine ⟨(new1 _ _ _ _).alloc _, ?_, ?_, ?_, rfl, ?_⟩
  · exact (new2b _ _ _ _).alloc _
  · have h := CellsAt.new ((w.alloc (.cells g.us 24)).alloc (.cells p.ar 37)) t.ar 40
    rwa [show ((w.alloc (.cells g.us 24)).alloc (.cells p.ar 37)).heap.size = w.heap.size + 1 + 1 by simp] at h
  · exact (((Below.refl _ _).alloc (Nat.le_refl _) _).alloc (by simp) _).alloc (by simp <;> omega) _
  · simp
/-- what stays in memory through ExportMay's region -/
structure MS (w V : World) (s k : Nat) (g : Cfg) (p p' : Pth) (t : Pr) : Prop where
  bx : Bu w V s g p t
  q : CellsAt V k p'.ar 37
  po : PthOk V p
  qo : PthOk V p'
  tok : PrOk V t
theorem MS.below {w V V' : World} {s k : Nat} {g : Cfg} {p p' : Pth} {t : Pr} (h : MS w V s k g p p' t) (hb : Below V.heap.size V V') : MS w V' s k g p p' t := ⟨h.bx.below hb, h.q.below hb h.q.lt, h.po.below hb (Nat.le_refl _), h.qo.below hb (Nat.le_refl _), h.tok.below hb (Nat.le_refl _)⟩
end Go.Proofs.YtojiieghjhjoaaaGreat
set_option linter.unusedVariables false
set_option linter.unusedSimpArgs false
namespace Go.Proofs.YtojiieghjhjoaaaGreat
open Go.RowKit Go.MapKept Go.Shelf
open Go.Lib hiding intOf

theorem CellsAt.setX {w : World} {b : Nat} {cs : Array Value} {T : TypeId} (h : CellsAt w b cs T) {c i : Nat} (hne : b ≠ c) (u : Value) : CellsAt (w.setCell ⟨c, i, none⟩ u) b cs T := (Below.heap_setCell w _ _ b hne).trans h
section
variable {w V : World} {s : Nat} {g : Cfg} {p : Pth} {t : Pr}
end
end Go.Proofs.YtojiieghjhjoaaaGreat
set_option linter.unusedVariables false
set_option linter.unusedSimpArgs false
namespace Go.Proofs.YtojiieghjhjoaaaGreat
open Go.RowKit Go.MapKept Go.Shelf
open Go.Lib hiding intOf

/-- a fact that stands as long as the blocks below a height do -/
def Steady (Q : World → Prop) : Prop := ∀ (W W' : World) (B : Nat), Q W → Below B W W' → W.heap.size ≤ B → Q W'
inductive Ent where
  | box (k : Nat) (cs : Array Value) (T : TypeId)
  | fact (n : Nat) (Q : World → Prop)
def Ent.no : Ent → Nat
  | .box k _ _ => k + 1
  | .fact n _ => n
def Ent.isBox : Ent → Bool
  | .box _ _ _ => true
  | .fact _ _ => false
def Ent.At (V : World) : Ent → Prop
  | .box k cs T => CellsAt V k cs T
  | .fact n Q => n ≤ V.heap.size ∧ Steady Q ∧ ∃ W0, Q W0 ∧ W0.heap.size ≤ n ∧ Below n W0 V
theorem Ent.At.no_le {V : World} {e : Ent} (h : e.At V) : e.no ≤ V.heap.size := by
  cases e with
  | box k cs T => exact CellsAt.lt h
  | fact n Q => exact h.1
theorem Ent.At.below {V V' : World} {e : Ent} (h : e.At V) (hb : Below V.heap.size V V') : e.At V' := by
  cases e with
  | box k cs T => exact CellsAt.below h hb (CellsAt.lt h)
  | fact n Q =>
    obtain ⟨h1, h2, W0, h3, h4, h5⟩ := h
    exact ⟨Nat.le_trans h1 hb.size, h2, W0, h3, h4, h5.trans (hb.mono h1)⟩
/-- the ledger: numbers fall -/
structure Led (w V : World) (l : List Ent) : Prop where
  at_ : ∀ e ∈ l, e.At V
  fall : l.Pairwise fun a b => b.no ≤ a.no ∧ (a.isBox = true → b.no < a.no)
  low : ∀ e ∈ l, w.heap.size ≤ e.no ∧ (e.isBox = true → w.heap.size < e.no)
  b : Below w.heap.size w V
section
variable {w V V' : World} {l : List Ent}
theorem Led.nil (w : World) : Led w w [] := ⟨(fun e h => by cases h), List.Pairwise.nil, (fun e h => by cases h), Below.refl _ _⟩
theorem Led.below (h : Led w V l) (hb : Below V.heap.size V V') : Led w V' l := ⟨fun e he => (h.at_ e he).below hb, h.fall, h.low, h.b.trans (hb.mono h.b.size)⟩
theorem Led.box (h : Led w V l) (i : Nat) {k : Nat} {cs : Array Value} {T : TypeId} (hi : l[i]? = some (.box k cs T)) : CellsAt V k cs T := h.at_ _ (List.mem_of_getElem? hi)
theorem Led.fact (h : Led w V l) (i : Nat) {n : Nat} {Q : World → Prop} (hi : l[i]? = some (.fact n Q)) : Q V := by
  obtain ⟨_, h2, W0, h3, h4, h5⟩ := h.at_ _ (List.mem_of_getElem? hi)
  exact h2 W0 V n h3 h5 h4
theorem Led.push (h : Led w V l) {cs : Array Value} {T : TypeId} (hc : CellsAt V' V.heap.size cs T) (hb : Below V.heap.size V V') : Led w V' (.box V.heap.size cs T :: l) := by
  have h2 := h.below hb
  refine ⟨fun e he => ?_, List.Pairwise.cons (fun e he => ?_) h.fall, fun e he => ?_, h2.b⟩
  · rcases List.mem_cons.1 he with rfl | he
    · exact hc
    · exact h2.at_ e he
  · have := (h.at_ e he).no_le
    exact ⟨by show e.no ≤ V.heap.size + 1; omega, fun _ => by show e.no < V.heap.size + 1; omega⟩
  · rcases List.mem_cons.1 he with rfl | he
    · have := h.b.size
      exact ⟨by show w.heap.size ≤ V.heap.size + 1; omega, fun _ => by show w.heap.size < V.heap.size + 1; omega⟩
    · exact h.low e he
theorem Led.know (h : Led w V l) {Q : World → Prop} (hs : Steady Q) (hq : Q V) : Led w V (.fact V.heap.size Q :: l) := by
  refine ⟨fun e he => ?_, List.Pairwise.cons (fun e he => ?_) h.fall, fun e he => ?_, h.b⟩
  · rcases List.mem_cons.1 he with rfl | he
    · exact ⟨Nat.le_refl _, hs, V, hq, Nat.le_refl _, Below.refl _ _⟩
    · exact h.at_ e he
  · exact ⟨(h.at_ e he).no_le, fun hb => by cases hb⟩
  · rcases List.mem_cons.1 he with rfl | he
    · exact ⟨h.b.size, fun hb => by cases hb⟩
    · exact h.low e he
theorem Led.over (h : Led w V l) {k : Nat} (hn : ∀ e ∈ l, e.no ≤ k) (hw : w.heap.size ≤ k) (hg : V.grownBy V' (some k)) : Led w V' l := by
  refine ⟨fun e he => ?_, h.fall, h.low, h.b.grown hg h.b.size (fun q hq => by injection hq with hq; omega)⟩
  have h1 := h.at_ e he
  have h2 := hn e he
  cases e with
  | box j cs2 T2 =>
    have h3 : j + 1 ≤ k := h2
    exact (hg.block _ (CellsAt.lt h1) (fun e => by injection e with e; omega)).trans h1
  | fact n Q =>
    have h3 : n ≤ k := h2
    obtain ⟨q1, q2, W0, q3, q4, q5⟩ := h1
    exact ⟨Nat.le_trans q1 hg.size, q2, W0, q3, q4, q5.grown hg (by omega) (fun q hq => by injection hq with hq; omega)⟩
theorem Led.nums (h : Led w V l) {k : Nat} (hk : V.heap.size ≤ k) : ∀ e ∈ l, e.no ≤ k := fun e he => Nat.le_trans (h.at_ e he).no_le hk
theorem Led.add (h : Led w V l) {k : Nat} {cs : Array Value} {T : TypeId} (hn : ∀ e ∈ l, e.no ≤ k) (hw : w.heap.size ≤ k) (hc : CellsAt V k cs T) : Led w V (.box k cs T :: l) := by
  refine ⟨fun e he => ?_, List.Pairwise.cons (fun e he => ?_) h.fall, fun e he => ?_, h.b⟩
  · rcases List.mem_cons.1 he with rfl | he
    · exact hc
    · exact h.at_ e he
  · have := hn e he
    exact ⟨by show e.no ≤ k + 1; omega, fun _ => by show e.no < k + 1; omega⟩
  · rcases List.mem_cons.1 he with rfl | he
    · exact ⟨by show w.heap.size ≤ k + 1; omega, fun _ => by show w.heap.size < k + 1; omega⟩
    · exact h.low e he
/-- entries are forgotten -/
theorem Led.sub {l' : List Ent} (h : Led w V l) (hs : l'.Sublist l) : Led w V l' := ⟨fun e he => h.at_ e (hs.subset he), h.fall.sublist hs, fun e he => h.low e (hs.subset he), h.b⟩
/-- a store in a box: newer facts are forgotten ahead -/
theorem Led.set {l1 l2 : List Ent} {k : Nat} {cs : Array Value} {T : TypeId} (h : Led w V (l1 ++ .box k cs T :: l2)) (hbx : ∀ e ∈ l1, e.isBox = true) (hg : V.grownBy V' (some k)) {ds : Array Value} (hc : CellsAt V' k ds T) : Led w V' (l1 ++ .box k ds T :: l2) := by
  have hp := List.pairwise_append.1 h.fall
  have hp2 := List.pairwise_cons.1 hp.2.1
  have hk := h.low (.box k cs T) (List.mem_append.2 (.inr (List.mem_cons_self ..)))
  have hkw : w.heap.size ≤ k := Nat.lt_succ_iff.1 (hk.2 rfl)
  refine ⟨fun e he => ?_, ?_, fun e he => ?_, h.b.grown hg h.b.size (fun q hq => by injection hq with hq; omega)⟩
  · rcases List.mem_append.1 he with he | he
    · have h1 := h.at_ e (List.mem_append.2 (.inl he))
      have h2 := hp.2.2 e he (.box k cs T) (List.mem_cons_self ..)
      cases e with
      | box j cs2 T2 =>
        have h3 : k + 1 < j + 1 := h2.2 rfl
        exact (hg.block _ (CellsAt.lt h1) (fun e => by injection e with e; omega)).trans h1
      | fact n Q => exact absurd (hbx _ he) (by simp [Ent.isBox])
    · rcases List.mem_cons.1 he with rfl | he
      · exact hc
      · have h1 := h.at_ e (List.mem_append.2 (.inr (List.mem_cons_of_mem _ he)))
        have h2 := (hp2.1 e he).2 rfl
        cases e with
        | box j cs2 T2 =>
          have h3 : j + 1 < k + 1 := h2
          exact (hg.block _ (CellsAt.lt h1) (fun e => by injection e with e; omega)).trans h1
        | fact n Q =>
          have h3 : n < k + 1 := h2
          obtain ⟨q1, q2, W0, q3, q4, q5⟩ := h1
          exact ⟨Nat.le_trans q1 hg.size, q2, W0, q3, q4, q5.grown hg (by omega) (fun q hq => by injection hq with hq; omega)⟩
  · refine List.pairwise_append.2 ⟨hp.1, List.pairwise_cons.2 ⟨fun e he => hp2.1 e he, hp2.2⟩, fun a ha b hb => ?_⟩
    rcases List.mem_cons.1 hb with rfl | hb
    · exact hp.2.2 a ha (.box k cs T) (List.mem_cons_self ..)
    · exact hp.2.2 a ha b (List.mem_cons_of_mem _ hb)
  · rcases List.mem_append.1 he with he | he
    · exact h.low e (List.mem_append.2 (.inl he))
    · rcases List.mem_cons.1 he with rfl | he
      · exact hk
      · exact h.low e (List.mem_append.2 (.inr (List.mem_cons_of_mem _ he)))
end
theorem steady_pth (p : Pth) : Steady fun W => PthOk W p := fun W W' B h hb hB => h.below hb hB
theorem steady_pr (t : Pr) : Steady fun W => PrOk W t := fun W W' B h hb hB => h.below hb hB
theorem steady_atr (a : Atr) : Steady fun W => AtrOk W a := fun W W' B h hb hB => h.below hb hB
end Go.Proofs.YtojiieghjhjoaaaGreat
