/-
  Trees of prefixes in memory: nodes laid anew. Conditions: none.
-/
import Derived.Test.YthnjepehiddogaaTrH
set_option linter.unusedVariables false
set_option linter.unusedSimpArgs false
namespace Go.Proofs.Ythnjepehiddogaa
open Go.RowKit Go.MapKept

/-- is a prefix new to a tree? -/
def Tt.fresh {V : Type} : Tt V → Tp → Bool
  | .nil, _ => true
  | .node a has v l r, p => if cmN a p = a.len then (if a.len = p.len then !has else if p.bit a.len = 0 then l.fresh p else r.fresh p) else true
theorem TreeAt.mk {w : World} {b : Nat} {Sl Sr : List Nat} {ql qr : Value} {a : Tp} {has : Bool} {v : Int} {l r : Tt Int} (hc : CellsAt w b (nodeC a has v ql qr) 76) (hl : TreeAt w Sl ql l) (hr : TreeAt w Sr qr r)
    (n1 : b ∉ Sl) (n2 : b ∉ Sr) (n3 : ∀ x ∈ Sl, x ∉ Sr) : TreeAt w (b :: (Sl ++ Sr)) (.pointer (some ⟨b, 0, none⟩)) (.node a has v l r) := by
  refine ⟨b, Sl, Sr, ql, qr, rfl, rfl, hc, hl, hr, ?_⟩
  rw [List.nodup_cons, List.nodup_append]
  refine ⟨fun h => ?_, hl.nodup, hr.nodup, fun x hx y hy e => n3 x hx (e ▸ hy)⟩
  rcases List.mem_append.1 h with h | h
  · exact n1 h
  · exact n2 h
/-- a node's parts -/
structure NodeAt (w : World) (S : List Nat) (b : Nat) (a : Tp) (has : Bool) (v : Int) (l r : Tt Int) (Sl Sr : List Nat) (ql qr : Value) : Prop where
  s : S = b :: (Sl ++ Sr)
  c : CellsAt w b (nodeC a has v ql qr) 76
  l : TreeAt w Sl ql l
  r : TreeAt w Sr qr r
  n1 : b ∉ Sl
  n2 : b ∉ Sr
  n3 : ∀ x ∈ Sl, x ∉ Sr
theorem TreeAt.parts {w : World} {S : List Nat} {q : Value} {a : Tp} {has : Bool} {v : Int} {l r : Tt Int} (h : TreeAt w S q (.node a has v l r)) : ∃ b Sl Sr ql qr, q = .pointer (some ⟨b, 0, none⟩) ∧ NodeAt w S b a has v l r Sl Sr ql qr := by
  obtain ⟨b, Sl, Sr, ql, qr, rfl, h1, hc, hl, hr, hn⟩ := h
  rw [List.nodup_cons, List.nodup_append] at hn
  obtain ⟨g1, _, _, g2⟩ := hn
  exact ⟨b, Sl, Sr, ql, qr, h1, rfl, hc, hl, hr, fun h => g1 (List.mem_append_left _ h), fun h => g1 (List.mem_append_right _ h), fun x hx hy => g2 x hx x hy rfl⟩
theorem NodeAt.tree {w : World} {S : List Nat} {b : Nat} {a : Tp} {has : Bool} {v : Int} {l r : Tt Int} {Sl Sr : List Nat} {ql qr : Value} (h : NodeAt w S b a has v l r Sl Sr ql qr) : TreeAt w S (.pointer (some ⟨b, 0, none⟩)) (.node a has v l r) := by
  rw [h.s]
  exact TreeAt.mk h.c h.l h.r h.n1 h.n2 h.n3
theorem NodeAt.below {w w' : World} {S : List Nat} {b : Nat} {a : Tp} {has : Bool} {v : Int} {l r : Tt Int} {Sl Sr : List Nat} {ql qr : Value} (h : NodeAt w S b a has v l r Sl Sr ql qr) (hb : Below w.heap.size w w') : NodeAt w' S b a has v l r Sl Sr ql qr :=
  ⟨h.s, h.c.below hb h.c.lt, h.l.below' hb, h.r.below' hb, h.n1, h.n2, h.n3⟩
/-- what a call that set a tree anew leaves -/
structure SetAt (w : World) (S : List Nat) (q' : Value) (T' : Tt Int) (S' : List Nat) (w' : World) : Prop where
  t : TreeAt w' S' q' T'
  g : GrownX (fun x => x ∈ S) w w'
  s : ∀ x ∈ S', x ∈ S ∨ w.heap.size ≤ x
theorem SetAt.from_ {w w1 w' : World} {S S' : List Nat} {q' : Value} {T' : Tt Int} (h : SetAt w1 S q' T' S' w') (hb : Below w.heap.size w w1) : SetAt w S q' T' S' w' :=
  ⟨h.t, (GrownX.of_below hb).trans h.g, fun x hx => (h.s x hx).imp id fun g => Nat.le_trans hb.size g⟩
theorem SetAt.to_ {w w1 w' : World} {S S' : List Nat} {q' : Value} {T' : Tt Int} (h : SetAt w S q' T' S' w1) (hb : Below w1.heap.size w1 w') : SetAt w S q' T' S' w' :=
  ⟨h.t.below' hb, h.g.trans (GrownX.of_below hb), h.s⟩
theorem SetAt.drew {w w1 : World} {S S' : List Nat} {q' : Value} {T' : Tt Int} (h : SetAt w S q' T' S' w1) (n : Nat) : SetAt w S q' T' S' (w1.drewN n) := h.to_ (below_drewN (Below.refl _ _) n)
section
variable {w w1 : World} {S : List Nat} {b : Nat} {a : Tp} {has : Bool} {v : Int} {l r : Tt Int} {Sl Sr : List Nat} {ql qr : Value}
theorem setCell_row (w : World) (b i : Nat) (u : Value) : w.grownBy (w.setCell ⟨b, i, none⟩ u) (some b) := grown_setCell w ⟨b, i, none⟩ u
/-- a value laid anew -/
theorem NodeAt.val (h : NodeAt w S b a has v l r Sl Sr ql qr) (hb : Below w.heap.size w w1) (has' : Bool) (u : Int) : SetAt w S (.pointer (some ⟨b, 0, none⟩)) (.node a has' u l r) S ((w1.setCell ⟨b, 4, none⟩ (.bool has')).setCell ⟨b, 5, none⟩ (.int .i64 u)) := by
  have h1 := h.below hb
  have g1 := setCell_row w1 b 4 (.bool has')
  have g2 := setCell_row (w1.setCell ⟨b, 4, none⟩ (.bool has')) b 5 (.int .i64 u)
  have g3 := grown_trans g1 g2
  have hbS : b ∈ S := by rw [h.s]; exact List.mem_cons_self ..
  refine ⟨?_, (GrownX.of_below hb).trans (GrownX.of_row g3 hbS), fun x hx => Or.inl hx⟩
  rw [h.s]
  refine TreeAt.mk (((h1.c.setc 4 (.bool has')).setc 5 (.int .i64 u)).cast rfl) (h1.l.grownX (GrownX.of_row g3 (X := fun x => x = b) rfl) ?_) (h1.r.grownX (GrownX.of_row g3 (X := fun x => x = b) rfl) ?_) h.n1 h.n2 h.n3
  · exact fun x hx e => h.n1 (e ▸ hx)
  · exact fun x hx e => h.n2 (e ▸ hx)
/-- a left child laid anew -/
theorem NodeAt.left {w2 : World} {ql' : Value} {l' : Tt Int} {Sl' : List Nat} (h : NodeAt w S b a has v l r Sl Sr ql qr) (hs : SetAt w Sl ql' l' Sl' w2) :
    CellsAt w2 b (nodeC a has v ql qr) 76 ∧ SetAt w S (.pointer (some ⟨b, 0, none⟩)) (.node a has v l' r) (b :: (Sl' ++ Sr)) (w2.setCell ⟨b, 6, none⟩ ql') := by
  have g1 := setCell_row w2 b 6 ql'
  have hbS : b ∈ S := by rw [h.s]; exact List.mem_cons_self ..
  have hlS : ∀ x ∈ Sl, x ∈ S := fun x hx => by rw [h.s]; exact List.mem_cons_of_mem _ (List.mem_append_left _ hx)
  have hrS : ∀ x ∈ Sr, x ∈ S := fun x hx => by rw [h.s]; exact List.mem_cons_of_mem _ (List.mem_append_right _ hx)
  have hc2 := h.c.grownX hs.g h.n1
  have hr2 := h.r.grownX hs.g (fun x hx hy => h.n3 x hy hx)
  have m1 : b ∉ Sl' := fun hm => by
    rcases hs.s _ hm with g | g
    · exact h.n1 g
    · have := h.c.lt
      omega
  have m3 : ∀ x ∈ Sl', x ∉ Sr := fun x hx hy => by
    rcases hs.s _ hx with g | g
    · exact h.n3 x g hy
    · have := h.r.lt x hy
      omega
  refine ⟨hc2, ?_, (hs.g.mono hlS).trans (GrownX.of_row g1 hbS), fun x hx => ?_⟩
  · refine TreeAt.mk ((hc2.setc 6 ql').cast rfl) (hs.t.grownX (GrownX.of_row g1 (X := fun x => x = b) rfl) ?_) (hr2.grownX (GrownX.of_row g1 (X := fun x => x = b) rfl) ?_) m1 h.n2 m3
    · exact fun x hx e => m1 (e ▸ hx)
    · exact fun x hx e => h.n2 (e ▸ hx)
  · rcases List.mem_cons.1 hx with rfl | hx
    · exact Or.inl hbS
    · rcases List.mem_append.1 hx with hx | hx
      · exact (hs.s x hx).imp (hlS x) id
      · exact Or.inl (hrS x hx)
/-- a right child laid anew -/
theorem NodeAt.right {w2 : World} {qr' : Value} {r' : Tt Int} {Sr' : List Nat} (h : NodeAt w S b a has v l r Sl Sr ql qr) (hs : SetAt w Sr qr' r' Sr' w2) :
    CellsAt w2 b (nodeC a has v ql qr) 76 ∧ SetAt w S (.pointer (some ⟨b, 0, none⟩)) (.node a has v l r') (b :: (Sl ++ Sr')) (w2.setCell ⟨b, 7, none⟩ qr') := by
  have g1 := setCell_row w2 b 7 qr'
  have hbS : b ∈ S := by rw [h.s]; exact List.mem_cons_self ..
  have hlS : ∀ x ∈ Sl, x ∈ S := fun x hx => by rw [h.s]; exact List.mem_cons_of_mem _ (List.mem_append_left _ hx)
  have hrS : ∀ x ∈ Sr, x ∈ S := fun x hx => by rw [h.s]; exact List.mem_cons_of_mem _ (List.mem_append_right _ hx)
  have hc2 := h.c.grownX hs.g h.n2
  have hl2 := h.l.grownX hs.g (fun x hx hy => h.n3 x hx hy)
  have m1 : b ∉ Sr' := fun hm => by
    rcases hs.s _ hm with g | g
    · exact h.n2 g
    · have := h.c.lt
      omega
  have m3 : ∀ x ∈ Sl, x ∉ Sr' := fun x hy hx => by
    rcases hs.s _ hx with g | g
    · exact h.n3 x hy g
    · have := h.l.lt x hy
      omega
  refine ⟨hc2, ?_, (hs.g.mono hrS).trans (GrownX.of_row g1 hbS), fun x hx => ?_⟩
  · refine TreeAt.mk ((hc2.setc 7 qr').cast rfl) (hl2.grownX (GrownX.of_row g1 (X := fun x => x = b) rfl) ?_) (hs.t.grownX (GrownX.of_row g1 (X := fun x => x = b) rfl) ?_) h.n1 m1 m3
    · exact fun x hx e => h.n1 (e ▸ hx)
    · exact fun x hx e => m1 (e ▸ hx)
  · rcases List.mem_cons.1 hx with rfl | hx
    · exact Or.inl hbS
    · rcases List.mem_append.1 hx with hx | hx
      · exact Or.inl (hlS x hx)
      · exact (hs.s x hx).imp (hrS x) id
/-- a leaf -/
theorem SetAt.leaf {W : World} {S : List Nat} {b : Nat} {p : Tp} {u : Int} (hb : Below w.heap.size w W) (h : CellsAt W b (nodeC p true u (.pointer none) (.pointer none)) 76) (hn : w.heap.size ≤ b) : SetAt w S (.pointer (some ⟨b, 0, none⟩)) (.node p true u .nil .nil) [b] W := by
  refine ⟨?_, GrownX.of_below hb, fun x hx => Or.inr ?_⟩
  · exact TreeAt.mk (Sl := []) (Sr := []) h ⟨rfl, rfl⟩ ⟨rfl, rfl⟩ (by simp) (by simp) (by simp)
  · rw [List.mem_singleton] at hx
    omega
/-- a fork above a tree, with nothing beside it -/
theorem SetAt.up {W : World} {S : List Nat} {q : Value} {T : Tt Int} {U : Nat} {c : Tp} {has : Bool} {u : Int} (h : TreeAt w S q T) (hb : Below w.heap.size w W) (hn : w.heap.size ≤ U) :
    (CellsAt W U (nodeC c has u q (.pointer none)) 76 → SetAt w S (.pointer (some ⟨U, 0, none⟩)) (.node c has u T .nil) (U :: (S ++ [])) W) ∧
    (CellsAt W U (nodeC c has u (.pointer none) q) 76 → SetAt w S (.pointer (some ⟨U, 0, none⟩)) (.node c has u .nil T) (U :: ([] ++ S)) W) := by
  have hU : U ∉ S := fun hx => by
    have := h.lt U hx
    omega
  constructor
  · intro hc
    refine ⟨TreeAt.mk hc (h.below' hb) ⟨rfl, rfl⟩ hU (by simp) (by simp), GrownX.of_below hb, fun x hx => ?_⟩
    rw [List.append_nil] at hx
    rcases List.mem_cons.1 hx with rfl | hx
    · exact Or.inr hn
    · exact Or.inl hx
  · intro hc
    refine ⟨TreeAt.mk hc ⟨rfl, rfl⟩ (h.below' hb) (by simp) hU (by simp), GrownX.of_below hb, fun x hx => ?_⟩
    rw [List.nil_append] at hx
    rcases List.mem_cons.1 hx with rfl | hx
    · exact Or.inr hn
    · exact Or.inl hx
/-- a fork above a tree, with a leaf beside it -/
theorem SetAt.fork {W : World} {S : List Nat} {q : Value} {T : Tt Int} {U N : Nat} {c p : Tp} {has : Bool} {z u : Int} (h : TreeAt w S q T) (hb : Below w.heap.size w W) (hn : w.heap.size ≤ U) (hN : w.heap.size ≤ N) (hne : U ≠ N) (hl : CellsAt W N (nodeC p true u (.pointer none) (.pointer none)) 76) :
    (CellsAt W U (nodeC c has z q (.pointer (some ⟨N, 0, none⟩))) 76 → SetAt w S (.pointer (some ⟨U, 0, none⟩)) (.node c has z T (.node p true u .nil .nil)) (U :: (S ++ [N])) W) ∧
    (CellsAt W U (nodeC c has z (.pointer (some ⟨N, 0, none⟩)) q) 76 → SetAt w S (.pointer (some ⟨U, 0, none⟩)) (.node c has z (.node p true u .nil .nil) T) (U :: ([N] ++ S)) W) := by
  have hU : U ∉ S := fun hx => by
    have := h.lt U hx
    omega
  have hNS : N ∉ S := fun hx => by
    have := h.lt N hx
    omega
  have hleaf : TreeAt W [N] (.pointer (some ⟨N, 0, none⟩)) (.node p true u .nil .nil) := (SetAt.leaf (S := []) hb hl hN).t
  constructor
  · intro hc
    refine ⟨TreeAt.mk hc (h.below' hb) hleaf hU (by simpa using hne) (fun x hx hy => hNS (by rw [List.mem_singleton] at hy; exact hy ▸ hx)), GrownX.of_below hb, fun x hx => ?_⟩
    rcases List.mem_cons.1 hx with rfl | hx
    · exact Or.inr hn
    · rcases List.mem_append.1 hx with hx | hx
      · exact Or.inl hx
      · rw [List.mem_singleton] at hx
        exact Or.inr (by omega)
  · intro hc
    refine ⟨TreeAt.mk hc hleaf (h.below' hb) (by simpa using hne) hU (fun x hy hx => hNS (by rw [List.mem_singleton] at hy; exact hy ▸ hx)), GrownX.of_below hb, fun x hx => ?_⟩
    rcases List.mem_cons.1 hx with rfl | hx
    · exact Or.inr hn
    · rcases List.mem_append.1 hx with hx | hx
      · rw [List.mem_singleton] at hx
        exact Or.inr (by omega)
      · exact Or.inl hx
end
end Go.Proofs.Ythnjepehiddogaa
