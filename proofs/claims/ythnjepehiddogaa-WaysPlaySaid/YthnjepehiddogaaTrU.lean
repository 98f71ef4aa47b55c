/-
  Ways made of a list: plainly, and two of them in memory. Conditions: none.
-/
import Derived.Test.YthnjepehiddogaaTrT
set_option linter.unusedVariables false
set_option linter.unusedSimpArgs false
namespace Go.Proofs.Ythnjepehiddogaa
open Go.RowKit Go.MapKept

def Px.ok (y : Px) : Prop := wOk y.fam y.rd y.addr y.len y.len
/-- what was added of a list, each with its length -/
def LM (L : List Px) (P : Nat → Prop) (q : Tp) (x : Int) : Prop := ∃ j y, P j ∧ L[j]? = some y ∧ y.ok ∧ q = y.tp ∧ x = y.len
theorem LM.len {L : List Px} {P : Nat → Prop} {q : Tp} {x : Int} (h : LM L P q x) : x = (q.len : Nat) := by
  obtain ⟨j, y, _, _, h1, rfl, rfl⟩ := h
  have := h1.2.2.1
  show y.len = ((y.len.toNat : Nat) : Int)
  omega
theorem LM.mono {L : List Px} {P Q : Nat → Prop} (h : ∀ j, P j → Q j) {q : Tp} {x : Int} : LM L P q x → LM L Q q x := by
  rintro ⟨j, y, h1, h2⟩
  exact ⟨j, y, h j h1, h2⟩
theorem LM.step {L : List Px} {P : Nat → Prop} {j : Nat} {y : Px} (hj : L[j]? = some y) (hok : y.ok) (q : Tp) (x : Int) : setM (LM L P) ⟨y.fam, y.rd, y.addr, y.len.toNat⟩ y.len q x ↔ LM L (fun k => P k ∨ k = j) q x := by
  constructor
  · rintro (⟨rfl, rfl⟩ | ⟨_, h⟩)
    · exact ⟨j, y, Or.inr rfl, hj, hok, rfl, rfl⟩
    · exact h.mono fun _ k => Or.inl k
  · intro h
    have hl := h.len
    by_cases he : q = y.tp
    · left
      refine ⟨he, ?_⟩
      rw [hl, he]
      have := hok.2.2.1
      show ((y.len.toNat : Nat) : Int) = y.len
      omega
    · obtain ⟨k, z, hk, h1, h2, h3, h4⟩ := h
      right
      refine ⟨he, k, z, ?_, h1, h2, h3, h4⟩
      rcases hk with hk | rfl
      · exact hk
      · rw [hj] at h1
        cases h1
        exact absurd h3 he
theorem LM.skip {L : List Px} {P : Nat → Prop} {j : Nat} {y : Px} (hj : L[j]? = some y) (hok : ¬ y.ok) (q : Tp) (x : Int) : LM L P q x ↔ LM L (fun k => P k ∨ k = j) q x := by
  constructor
  · exact LM.mono fun _ k => Or.inl k
  · rintro ⟨k, z, hk, h1, h2, h3⟩
    rcases hk with hk | rfl
    · exact ⟨k, z, hk, h1, h2, h3⟩
    · rw [hj] at h1
      cases h1
      exact absurd h2 hok
/-- an Add of a list's member -/
theorem AddPost.step {w w' : World} {bw : Nat} {L : List Px} {P : Nat → Prop} {X : Nat → Prop} {j : Nat} {y : Px} {e : Ending} (h : AddPost w bw (LM L P) X y.fam y.rd y.addr y.len y.len e w') (hw : WaysIs w bw (LM L P) X) (hj : L[j]? = some y) :
    ∃ z X', e = .returned (.int .i64 z) ∧ WaysIs w' bw (LM L (fun k => P k ∨ k = j)) X' ∧ GrownX X w w' ∧ ∀ x, X' x → X x ∨ w.heap.size ≤ x := by
  rcases h with ⟨h1, rfl, h2⟩ | ⟨h1, rfl, X', h2, h3, h4⟩
  · exact ⟨2, X, rfl, (hw.below h2).same fun q x => LM.skip hj h1 q x, GrownX.of_below h2, fun x hx => Or.inl hx⟩
  · exact ⟨0, X', rfl, h2.same fun q x => LM.step hj h1 q x, h3, h4⟩
/-- one cost alone -/
theorem LongM.uniq {M : Tp → Int → Prop} {p : Tp} {x y : Int} {b c : Bool} (hM : ∀ q q' x y, M q x → M q' y → q.len = q'.len → q.fam = q'.fam → q.rd = q'.rd → cov q p → cov q' p → x = y) (h : LongM M p x b) (k : LongM M p y c) : x = y ∧ b = c := by
  cases b with
  | false =>
    cases c with
    | false => exact ⟨h.1.trans k.1.symm, rfl⟩
    | true =>
      obtain ⟨q, g1, g2, g3, g4, _⟩ := k
      exact absurd g4 (h.2 q y g1 g2 g3)
  | true =>
    obtain ⟨q, g1, g2, g3, g4, g5⟩ := h
    cases c with
    | false => exact absurd g4 (k.2 q x g1 g2 g3)
    | true =>
      obtain ⟨q', k1, k2, k3, k4, k5⟩ := k
      have h1 := g5 q' y k1 k2 k3 k4
      have h2 := k5 q x g1 g2 g3 g4
      exact ⟨hM q q' x y g1 k1 (by omega) (g2.trans k2.symm) (g3.trans k3.symm) g4 k4, rfl⟩
theorem CostOf.uniq {M : Tp → Int → Prop} {next : ByteArray} {x y : Int} {b c : Bool} (hM : ∀ p q q' x y, M q x → M q' y → q.len = q'.len → q.fam = q'.fam → q.rd = q'.rd → cov q p → cov q' p → x = y) (h : CostOf M next x b) (k : CostOf M next y c) : x = y ∧ b = c := by
  unfold CostOf at h k
  split at h
  · rename_i h4
    rw [if_pos h4] at k
    exact h.uniq (hM _) k
  · rename_i h4
    rw [if_neg h4] at k
    split at h
    · rename_i h16
      rw [if_pos h16] at k
      exact h.uniq (hM _) k
    · rename_i h16
      rw [if_neg h16] at k
      exact ⟨h.1.trans k.1.symm, h.2.trans k.2.symm⟩
theorem LM.flat {L : List Px} {P : Nat → Prop} : ∀ p q q' x y, LM L P q x → LM L P q' y → q.len = q'.len → q.fam = q'.fam → q.rd = q'.rd → cov q p → cov q' p → x = y := fun _ q q' x y h k e _ _ _ _ => by
  rw [h.len, k.len, e]
/-- two ways, apart from one another and from what was there -/
def TwoAt (w0 w : World) (a b : Nat) (Ma Mb : Tp → Int → Prop) : Prop := ∃ Xa Xb, WaysIs w a Ma Xa ∧ WaysIs w b Mb Xb ∧ (∀ x, Xa x → ¬ Xb x) ∧ (∀ x, Xa x → w0.heap.size ≤ x) ∧ (∀ x, Xb x → w0.heap.size ≤ x) ∧ Below w0.heap.size w0 w
theorem TwoAt.below {w0 w w' : World} {a b : Nat} {Ma Mb : Tp → Int → Prop} (h : TwoAt w0 w a b Ma Mb) (hb : Below w.heap.size w w') : TwoAt w0 w' a b Ma Mb := by
  obtain ⟨Xa, Xb, h1, h2, h3, h4, h5, h6⟩ := h
  exact ⟨Xa, Xb, h1.below hb, h2.below hb, h3, h4, h5, h6.trans (hb.mono h6.size)⟩
theorem TwoAt.swap {w0 w : World} {a b : Nat} {Ma Mb : Tp → Int → Prop} (h : TwoAt w0 w a b Ma Mb) : TwoAt w0 w b a Mb Ma := by
  obtain ⟨Xa, Xb, h1, h2, h3, h4, h5, h6⟩ := h
  exact ⟨Xb, Xa, h2, h1, fun x hb ha => h3 x ha hb, h5, h4, h6⟩
theorem TwoAt.same {w0 w : World} {a b : Nat} {Ma Mb Na Nb : Tp → Int → Prop} (h : TwoAt w0 w a b Ma Mb) (ha : ∀ q x, Ma q x ↔ Na q x) (hb : ∀ q x, Mb q x ↔ Nb q x) : TwoAt w0 w a b Na Nb := by
  obtain ⟨Xa, Xb, h1, h2, h3, h4, h5, h6⟩ := h
  exact ⟨Xa, Xb, h1.same ha, h2.same hb, h3, h4, h5, h6⟩
/-- the first of two turned -/
theorem TwoAt.turn {w0 w w' : World} {a b : Nat} {Ma Mb Na : Tp → Int → Prop} {Xa Xb X' : Nat → Prop} (h2 : WaysIs w b Mb Xb) (h3 : ∀ x, Xa x → ¬ Xb x) (h4 : ∀ x, Xa x → w0.heap.size ≤ x) (h5 : ∀ x, Xb x → w0.heap.size ≤ x) (h6 : Below w0.heap.size w0 w)
    (k1 : WaysIs w' a Na X') (k2 : GrownX Xa w w') (k3 : ∀ x, X' x → Xa x ∨ w.heap.size ≤ x) : TwoAt w0 w' a b Na Mb := by
  refine ⟨X', Xb, k1, h2.grownX k2 (fun x hx hy => h3 x hy hx), fun x hx hy => ?_, fun x hx => ?_, h5, k2.below h6 h4 h6.size⟩
  · rcases k3 x hx with k | k
    · exact h3 x k hy
    · have := h2.lt x hy
      omega
  · rcases k3 x hx with k | k
    · exact h4 x k
    · have := h6.size
      omega
theorem PxAt.read {w w' : World} {b off cap : Nat} {L : List Px} {i : Nat} {x : Px} (h : PxAt w (some ⟨b, off, none⟩) cap L) (hx : L[i]? = some x) (hb : Below w.heap.size w w') :
    w'.cell? ⟨b, off + i * 4, none⟩ = some (.int .i64 x.fam) ∧ w'.cell? ⟨b, off + i * 4 + 1, none⟩ = some (.int .u64 x.rd) ∧ w'.cell? ⟨b, off + i * 4 + 2, none⟩ = some (.string x.addr) ∧ w'.cell? ⟨b, off + i * 4 + 3, none⟩ = some (.int .i64 x.len) := by
  obtain ⟨b', off', e, hlt, hc⟩ := h.at_ (by have := (List.getElem?_eq_some_iff.1 hx).1; omega)
  injection e with e
  injection e with e1 e2
  subst e1 e2
  obtain ⟨c0, c1, c2, c3⟩ := hc i x hx
  exact ⟨(hb.cell (p := ⟨b, _, none⟩) hlt).trans c0, (hb.cell (p := ⟨b, _, none⟩) hlt).trans c1, (hb.cell (p := ⟨b, _, none⟩) hlt).trans c2, (hb.cell (p := ⟨b, _, none⟩) hlt).trans c3⟩
/-- the greatest length of those that meet a condition, so far -/
def BestIs (L : List Px) (C : Px → Prop) (i : Nat) (best : Int) : Prop :=
  (best = -1 ∧ ∀ j y, j < i → L[j]? = some y → ¬ C y) ∨ (∃ j y, j < i ∧ L[j]? = some y ∧ C y ∧ best = y.len ∧ ∀ k z, k < i → L[k]? = some z → C z → z.len ≤ best)
theorem BestIs.zero (L : List Px) (C : Px → Prop) : BestIs L C 0 (-1) := Or.inl ⟨rfl, fun j y h => absurd h (by omega)⟩
theorem BestIs.no {L : List Px} {C : Px → Prop} {i : Nat} {best : Int} {y : Px} (h : BestIs L C i best) (hy : L[i]? = some y) (hc : ¬ C y) : BestIs L C (i + 1) best := by
  have key : ∀ (Q : Px → Prop), (∀ j z, j < i → L[j]? = some z → Q z) → Q y → ∀ j z, j < i + 1 → L[j]? = some z → Q z := fun Q hq hqy j z hj hz => by
    by_cases hji : j = i
    · subst hji
      rw [hy] at hz
      cases hz
      exact hqy
    · exact hq j z (by omega) hz
  rcases h with ⟨rfl, h⟩ | ⟨j, z, h1, h2, h3, h4, h5⟩
  · exact Or.inl ⟨rfl, key (fun z => ¬ C z) h hc⟩
  · exact Or.inr ⟨j, z, by omega, h2, h3, h4, fun k u hk hu hcu => key (fun u => C u → u.len ≤ best) h5 (fun hc2 => absurd hc2 hc) k u hk hu hcu⟩
theorem BestIs.yes {L : List Px} {C : Px → Prop} {i : Nat} {best : Int} {y : Px} (h : BestIs L C i best) (hy : L[i]? = some y) (hc : C y) (h0 : -1 ≤ y.len) : BestIs L C (i + 1) (max best y.len) := by
  rcases h with ⟨rfl, h⟩ | ⟨j, z, h1, h2, h3, h4, h5⟩
  · refine Or.inr ⟨i, y, by omega, hy, hc, by omega, fun k u hk hu hcu => ?_⟩
    by_cases hki : k = i
    · subst hki
      rw [hy] at hu
      cases hu
      omega
    · exact absurd hcu (h k u (by omega) hu)
  · by_cases hlt : best ≤ y.len
    · refine Or.inr ⟨i, y, by omega, hy, hc, by omega, fun k u hk hu hcu => ?_⟩
      by_cases hki : k = i
      · subst hki
        rw [hy] at hu
        cases hu
        omega
      · have := h5 k u (by omega) hu hcu
        omega
    · refine Or.inr ⟨j, z, by omega, h2, h3, by omega, fun k u hk hu hcu => ?_⟩
      by_cases hki : k = i
      · subst hki
        rw [hy] at hu
        cases hu
        omega
      · have := h5 k u (by omega) hu hcu
        omega
theorem BestIs.of {L : List Px} {C : Px → Prop} {best : Int} {p : Tp} {x : Int} {b : Bool} (h : BestIs L C L.length best) (hl : LongM (LM L (fun _ => True)) p x b) (hp : p.fam = 1 ∨ p.fam = 2) (hC : ∀ y, C y ↔ covX y p) : (b = true ↔ 0 ≤ best) ∧ (b = true → x = best) := by
  have mk : ∀ (j : Nat) (y : Px), L[j]? = some y → C y → y.tp.fam = p.fam ∧ y.tp.rd = p.rd ∧ cov y.tp p ∧ LM L (fun _ => True) y.tp y.len ∧ 0 ≤ y.len := fun j y hj hc => by
    obtain ⟨k1, k2, k3, k4⟩ := (hC y).1 hc
    have h0 := k1.2.2.1
    have h8 := k1.2.2.2.1
    have hin := famSize_in y.fam
    exact ⟨k2, k3, k4, ⟨j, y, trivial, hj, ⟨k1, by rw [k2]; exact hp, h0, by omega⟩, rfl, rfl⟩, h0⟩
  rcases h with ⟨rfl, h⟩ | ⟨j, y, h1, h2, h3, h4, h5⟩
  · cases b with
    | false => exact ⟨⟨fun h => (by cases h), fun h => absurd h (by omega)⟩, fun h => (by cases h)⟩
    | true =>
      obtain ⟨q, ⟨j, y, _, hj, hok, rfl, rfl⟩, g2, g3, g4, _⟩ := hl
      exact absurd ((hC y).2 ⟨hok.1, g2, g3, g4⟩) (h j y (List.getElem?_eq_some_iff.1 hj).1 hj)
  · obtain ⟨m1, m2, m3, m4, m5⟩ := mk j y h2 h3
    cases b with
    | false => exact absurd m3 (hl.2 _ _ m4 m1 m2)
    | true =>
      refine ⟨⟨fun _ => by omega, fun _ => rfl⟩, fun _ => ?_⟩
      obtain ⟨q, ⟨k, z, _, hk, hok, rfl, rfl⟩, g2, g3, g4, g5⟩ := hl
      have a1 := g5 _ _ m4 m1 m2 m3
      have a2 := h5 k z (List.getElem?_eq_some_iff.1 hk).1 hk ((hC z).2 ⟨hok.1, g2, g3, g4⟩)
      have a3 : y.len.toNat ≤ z.len.toNat := a1
      have := hok.2.2.1
      omega
end Go.Proofs.Ythnjepehiddogaa
