/-
  Ways: what one more way, or one less, does to costs. Plain laws. Conditions: none.
-/
import Derived.Test.YthnjepehiddogaaTrX
set_option linter.unusedVariables false
set_option linter.unusedSimpArgs false
namespace Go.Proofs.Ythnjepehiddogaa
open Go.RowKit Go.MapKept

/-- what is held has good keys, each once -/
structure Flat (M : Tp → Int → Prop) : Prop where
  ok : ∀ q x, M q x → q.Ok
  fn : ∀ q x y, M q x → M q y → x = y
theorem Flat.none : Flat (fun _ _ => False) := ⟨fun _ _ h => h.elim, fun _ _ _ h => h.elim⟩
theorem Flat.set {M : Tp → Int → Prop} (h : Flat M) {p : Tp} (hp : p.Ok) (u : Int) : Flat (setM M p u) := by
  refine ⟨fun q x => ?_, fun q x y => ?_⟩
  · rintro (⟨rfl, _⟩ | ⟨_, k⟩)
    · exact hp
    · exact h.ok q x k
  · rintro (⟨h1, h2⟩ | ⟨h1, h2⟩) (⟨k1, k2⟩ | ⟨k1, k2⟩)
    · exact h2.trans k2.symm
    · exact absurd h1 k1
    · exact absurd k1 h1
    · exact h.fn q x y h2 k2
/-- two that cover one and are as long are one -/
theorem cov_same {p q r : Tp} (hq : q.Ok) (hr : r.Ok) (h1 : cov q p) (h2 : cov r p) (hf : q.fam = r.fam) (hd : q.rd = r.rd) (hl : q.len = r.len) : q = r :=
  Tp.ext_bits hq hr hf hd hl (fun i hi => (h1.2 i hi).trans (h2.2 i (by omega)).symm)
theorem Flat.hM {M : Tp → Int → Prop} (h : Flat M) : ∀ p q q' x y, M q x → M q' y → q.len = q'.len → q.fam = q'.fam → q.rd = q'.rd → cov q p → cov q' p → x = y := fun p q q' x y h1 h2 hl hf hd c1 c2 => by
  have e := cov_same (h.ok _ _ h1) (h.ok _ _ h2) c1 c2 hf hd hl
  subst e
  exact h.fn q x y h1 h2
/-- what was added of a list, each with its place -/
def MI (L : List Px) : Nat → Tp → Int → Prop
  | 0 => fun _ _ => False
  | k + 1 => fun q x => match L[k]? with
    | some y => (wOk y.fam y.rd y.addr y.len (k : Nat) ∧ setM (MI L k) y.tp (k : Nat) q x) ∨ (¬ wOk y.fam y.rd y.addr y.len (k : Nat) ∧ MI L k q x)
    | none => MI L k q x
theorem MI_some {L : List Px} {k : Nat} {y : Px} (hy : L[k]? = some y) (q : Tp) (x : Int) : MI L (k + 1) q x = ((wOk y.fam y.rd y.addr y.len (k : Nat) ∧ setM (MI L k) y.tp (k : Nat) q x) ∨ (¬ wOk y.fam y.rd y.addr y.len (k : Nat) ∧ MI L k q x)) := by
  show (match L[k]? with | some y => (wOk y.fam y.rd y.addr y.len (k : Nat) ∧ setM (MI L k) y.tp (k : Nat) q x) ∨ (¬ wOk y.fam y.rd y.addr y.len (k : Nat) ∧ MI L k q x) | none => MI L k q x) = _
  rw [hy]
theorem MI_none {L : List Px} {k : Nat} (hy : L[k]? = none) (q : Tp) (x : Int) : MI L (k + 1) q x = MI L k q x := by
  show (match L[k]? with | some y => (wOk y.fam y.rd y.addr y.len (k : Nat) ∧ setM (MI L k) y.tp (k : Nat) q x) ∨ (¬ wOk y.fam y.rd y.addr y.len (k : Nat) ∧ MI L k q x) | none => MI L k q x) = _
  rw [hy]
theorem Px.tp_ok {y : Px} {c : Int} (h : wOk y.fam y.rd y.addr y.len c) : y.tp.Ok := by
  have h1 := h.1
  have h0 := h1.2.2.1
  show PrefOk y.fam y.rd y.addr ((y.len.toNat : Nat) : Int)
  rw [show ((y.len.toNat : Nat) : Int) = y.len by omega]
  exact h1
theorem MI.yes {L : List Px} {k : Nat} {y : Px} (hy : L[k]? = some y) (hok : wOk y.fam y.rd y.addr y.len (k : Nat)) (q : Tp) (x : Int) : setM (MI L k) ⟨y.fam, y.rd, y.addr, y.len.toNat⟩ (k : Nat) q x ↔ MI L (k + 1) q x := by
  rw [MI_some hy]
  exact ⟨fun h => Or.inl ⟨hok, h⟩, fun h => h.elim And.right (fun k => absurd hok k.1)⟩
theorem MI.no {L : List Px} {k : Nat} {y : Px} (hy : L[k]? = some y) (hok : ¬ wOk y.fam y.rd y.addr y.len (k : Nat)) (q : Tp) (x : Int) : MI L k q x ↔ MI L (k + 1) q x := by
  rw [MI_some hy]
  exact ⟨fun h => Or.inr ⟨hok, h⟩, fun h => h.elim (fun k => absurd k.1 hok) And.right⟩
theorem MI.flat (L : List Px) : ∀ k, Flat (MI L k)
  | 0 => Flat.none
  | k + 1 => by
    have ih := MI.flat L k
    cases hy : L[k]? with
    | none =>
      have e : ∀ q x, MI L (k + 1) q x ↔ MI L k q x := fun q x => by rw [MI_none hy]
      exact ⟨fun q x h => ih.ok q x ((e q x).1 h), fun q x y h h2 => ih.fn q x y ((e q x).1 h) ((e q y).1 h2)⟩
    | some y =>
      by_cases hok : wOk y.fam y.rd y.addr y.len (k : Nat)
      · have hs := ih.set (Px.tp_ok hok) (k : Nat)
        exact ⟨fun q x h => hs.ok q x ((MI.yes hy hok q x).2 h), fun q x z h h2 => hs.fn q x z ((MI.yes hy hok q x).2 h) ((MI.yes hy hok q z).2 h2)⟩
      · exact ⟨fun q x h => ih.ok q x ((MI.no hy hok q x).2 h), fun q x z h h2 => ih.fn q x z ((MI.no hy hok q x).2 h) ((MI.no hy hok q z).2 h2)⟩
/-- whose keys they are -/
theorem MI.key {L : List Px} : ∀ {k : Nat} {q : Tp} {x : Int}, MI L k q x → ∃ j y c, j < k ∧ L[j]? = some y ∧ wOk y.fam y.rd y.addr y.len c ∧ q = y.tp
  | 0, q, x, h => h.elim
  | k + 1, q, x, h => by
    cases hy : L[k]? with
    | none =>
      rw [MI_none hy] at h
      obtain ⟨j, y, c, h1, h2⟩ := MI.key h
      exact ⟨j, y, c, by omega, h2⟩
    | some y =>
      rw [MI_some hy] at h
      rcases h with ⟨hok, ⟨h1, _⟩ | ⟨_, h⟩⟩ | ⟨_, h⟩
      · exact ⟨k, y, _, by omega, hy, hok, h1⟩
      · obtain ⟨j, z, c, h1, h2⟩ := MI.key h
        exact ⟨j, z, c, by omega, h2⟩
      · obtain ⟨j, z, c, h1, h2⟩ := MI.key h
        exact ⟨j, z, c, by omega, h2⟩
theorem Px.ext_tp {x y : Px} (h : x.tp = y.tp) (hx : 0 ≤ x.len) (hy : 0 ≤ y.len) : x = y := by
  obtain ⟨a, b, c, d⟩ := x
  obtain ⟨a2, b2, c2, d2⟩ := y
  have h1 : a = a2 := congrArg Tp.fam h
  have h2 : b = b2 := congrArg Tp.rd h
  have h3 : c = c2 := congrArg Tp.addr h
  have h4 : d.toNat = d2.toNat := congrArg Tp.len h
  have h5 : 0 ≤ d := hx
  have h6 : 0 ≤ d2 := hy
  have h7 : d = d2 := by omega
  subst h1 h2 h3 h7
  rfl
theorem MI.fresh {L : List Px} {k : Nat} {p : Px} {c : Int} (hok : wOk p.fam p.rd p.addr p.len c) (hn : ¬ ∃ j, j < k ∧ L[j]? = some p) (x : Int) : ¬ MI L k p.tp x := fun h => by
  obtain ⟨j, y, c2, h1, h2, h3, h4⟩ := MI.key h
  have e : p = y := Px.ext_tp h4 hok.1.2.2.1 h3.1.2.2.1
  exact hn ⟨j, h1, e ▸ h2⟩
/-- an Add of a list's member with its place -/
theorem AddPost.at_ {w w' : World} {bw : Nat} {L : List Px} {X : Nat → Prop} {k : Nat} {y : Px} {e : Ending} (h : AddPost w bw (MI L k) X y.fam y.rd y.addr y.len (k : Nat) e w') (hw : WaysIs w bw (MI L k) X) (hy : L[k]? = some y) :
    ∃ z X', e = .returned (.int .i64 z) ∧ WaysIs w' bw (MI L (k + 1)) X' ∧ GrownX X w w' ∧ ∀ x, X' x → X x ∨ w.heap.size ≤ x := by
  rcases h with ⟨h1, rfl, h2⟩ | ⟨h1, rfl, X', h2, h3, h4⟩
  · exact ⟨2, X, rfl, (hw.below h2).same (MI.no hy h1), GrownX.of_below h2, fun x hx => Or.inl hx⟩
  · exact ⟨0, X', rfl, h2.same (MI.yes hy h1), h3, h4⟩
/-- ways, apart from what was there -/
def OneAt (w0 w : World) (a : Nat) (M : Tp → Int → Prop) : Prop := ∃ X, WaysIs w a M X ∧ (∀ x, X x → w0.heap.size ≤ x) ∧ Below w0.heap.size w0 w
theorem OneAt.below {w0 w w' : World} {a : Nat} {M : Tp → Int → Prop} (h : OneAt w0 w a M) (hb : Below w.heap.size w w') : OneAt w0 w' a M := by
  obtain ⟨X, h1, h2, h3⟩ := h
  exact ⟨X, h1.below hb, h2, h3.trans (hb.mono h3.size)⟩
theorem OneAt.same {w0 w : World} {a : Nat} {M N : Tp → Int → Prop} (h : OneAt w0 w a M) (e : ∀ q x, M q x ↔ N q x) : OneAt w0 w a N := by
  obtain ⟨X, h1, h2, h3⟩ := h
  exact ⟨X, h1.same e, h2, h3⟩
theorem OneAt.turn {w0 w w' : World} {a : Nat} {N : Tp → Int → Prop} {X X' : Nat → Prop} (h2 : ∀ x, X x → w0.heap.size ≤ x) (h3 : Below w0.heap.size w0 w) (k1 : WaysIs w' a N X') (k2 : GrownX X w w') (k3 : ∀ x, X' x → X x ∨ w.heap.size ≤ x) : OneAt w0 w' a N :=
  ⟨X', k1, fun x hx => (k3 x hx).elim (h2 x) (fun k => by have := h3.size; omega), k2.below h3 h2 h3.size⟩
theorem one_new (w1 : World) : OneAt w1 ((w1.alloc (.cells #[.bool true, .slice none 0 0, .int .i64 0] 66)).alloc (.cells #[.pointer (some ⟨w1.heap.size, 0, none⟩)] 51)) (w1.heap.size + 1) (fun _ _ => False) :=
  ⟨_, ways_new w1, fun x hx => by omega, ((Below.refl _ _).alloc (Nat.le_refl _) _).alloc (by simp) _⟩
/-- one more way: what it may do to a cost -/
theorem LongM.more {M : Tp → Int → Prop} (hM : Flat M) {p t : Tp} (hp : p.Ok) {u a b : Int} {is so : Bool} (h : LongM M t a is) (k : LongM (setM M p u) t b so) : b = a ∨ b = u := by
  cases so with
  | false =>
    cases is with
    | false => exact Or.inl (k.1.trans h.1.symm)
    | true =>
      obtain ⟨q, g1, g2, g3, g4, _⟩ := h
      by_cases hq : q = p
      · exact absurd g4 (k.2 q u (Or.inl ⟨hq, rfl⟩) g2 g3)
      · exact absurd g4 (k.2 q a (Or.inr ⟨hq, g1⟩) g2 g3)
  | true =>
    obtain ⟨q, k1, k2, k3, k4, k5⟩ := k
    rcases k1 with ⟨_, hx⟩ | ⟨hq, k1⟩
    · exact Or.inr hx
    · left
      cases is with
      | false => exact absurd k4 (h.2 q b k1 k2 k3)
      | true =>
        obtain ⟨q0, g1, g2, g3, g4, g5⟩ := h
        have h1 := g5 q b k1 k2 k3 k4
        have h2 : q0.len ≤ q.len := by
          by_cases hq0 : q0 = p
          · exact k5 q0 u (Or.inl ⟨hq0, rfl⟩) g2 g3 g4
          · exact k5 q0 a (Or.inr ⟨hq0, g1⟩) g2 g3 g4
        have e := cov_same (hM.ok _ _ k1) (hM.ok _ _ g1) k4 g4 (k2.trans g2.symm) (k3.trans g3.symm) (by omega)
        subst e
        exact hM.fn q b a k1 g1
/-- one that does not cover changes nothing -/
theorem LongM.apart {M : Tp → Int → Prop} (hM : Flat M) {p t : Tp} (hp : p.Ok) {u a b : Int} {is so : Bool} (hc : ¬ (p.fam = t.fam ∧ p.rd = t.rd ∧ cov p t)) (h : LongM M t a is) (k : LongM (setM M p u) t b so) : b = a ∧ so = is := by
  have key : LongM (setM M p u) t a is := by
    cases is with
    | false => exact ⟨h.1, fun q y hq h1 h2 h3 => hq.elim (fun e => hc (by rw [← e.1]; exact ⟨h1, h2, h3⟩)) (fun e => h.2 q y e.2 h1 h2 h3)⟩
    | true =>
      obtain ⟨q, g1, g2, g3, g4, g5⟩ := h
      refine ⟨q, Or.inr ⟨fun e => hc (by rw [← e]; exact ⟨g2, g3, g4⟩), g1⟩, g2, g3, g4, fun q' y hq h1 h2 h3 => ?_⟩
      rcases hq with ⟨e, _⟩ | ⟨_, e⟩
      · exact absurd (by rw [← e]; exact ⟨h1, h2, h3⟩) hc
      · exact g5 q' y e h1 h2 h3
  exact LongM.uniq ((hM.set hp u).hM t) k key
theorem CostOf.more {M : Tp → Int → Prop} (hM : Flat M) {p : Tp} (hp : p.Ok) {next : ByteArray} {u a b : Int} {is so : Bool} (h : CostOf M next a is) (k : CostOf (setM M p u) next b so) : b = a ∨ b = u := by
  unfold CostOf at h k
  split at h
  · rename_i h4
    rw [if_pos h4] at k
    exact h.more hM hp k
  · rename_i h4
    rw [if_neg h4] at k
    split at h
    · rename_i h16
      rw [if_pos h16] at k
      exact h.more hM hp k
    · rename_i h16
      rw [if_neg h16] at k
      exact Or.inl (k.1.trans h.1.symm)
/-- the whole of an address -/
def wholeX (next : ByteArray) : Px := if next.size = 16 then ⟨2, 0, next, 128⟩ else ⟨1, 0, next, 32⟩
theorem CostOf.apart {M : Tp → Int → Prop} (hM : Flat M) {p : Px} (hp : p.tp.Ok) (h0 : 0 ≤ p.len) {next : ByteArray} {u a b : Int} {is so : Bool}
    (h4 : next.size = 4 → ¬ covX p ⟨1, 0, next, 32⟩) (h16 : next.size = 16 → ¬ covX p ⟨2, 0, next, 128⟩) (h : CostOf M next a is) (k : CostOf (setM M p.tp u) next b so) : b = a ∧ so = is := by
  have hpo : PrefOk p.fam p.rd p.addr p.len := by
    have h1 : PrefOk p.fam p.rd p.addr ((p.len.toNat : Nat) : Int) := hp
    rwa [show ((p.len.toNat : Nat) : Int) = p.len by omega] at h1
  unfold CostOf at h k
  split at h
  · rename_i s4
    rw [if_pos s4] at k
    exact h.apart hM hp (fun e => h4 s4 ⟨hpo, e.1, e.2.1, e.2.2⟩) k
  · rename_i s4
    rw [if_neg s4] at k
    split at h
    · rename_i s16
      rw [if_pos s16] at k
      exact h.apart hM hp (fun e => h16 s16 ⟨hpo, e.1, e.2.1, e.2.2⟩) k
    · rename_i s16
      rw [if_neg s16] at k
      exact ⟨k.1.trans h.1.symm, k.2.trans h.2.symm⟩
end Go.Proofs.Ythnjepehiddogaa
