/-
  A trie in memory; contracts of none and root. Conditions: sizes.
-/
import Derived.Test.YthnjepehiddogaaTrK
import Derived.LoopTactic
set_option linter.unusedVariables false
set_option linter.unusedSimpArgs false
namespace Go.Proofs.Ythnjepehiddogaa
open Go.RowKit Go.MapKept

/-- a root of a trie: its family and distinguisher, its tree -/
structure Rt where
  fam : Int
  rd : Int
  A : Option Addr
  S : List Nat
  t : Tt Int
def rootC (r : Rt) : List Value := [.int .i64 r.fam, .int .u64 r.rd, .pointer r.A]
def flatR (l : List Rt) : List Value := l.flatMap rootC
theorem flatR_length : ∀ l : List Rt, (flatR l).length = l.length * 3
  | [] => rfl
  | p :: l => by
    have ih := flatR_length l
    unfold flatR at ih ⊢
    rw [List.flatMap_cons, List.length_append, ih]
    simp only [List.length_cons, rootC, List.length_nil]
    omega
theorem flatR_append (l m : List Rt) : flatR (l ++ m) = flatR l ++ flatR m := List.flatMap_append
theorem flatR_one (l : List Rt) : ∀ u ∈ flatR l, u.oneCell' = true := fun u h => by
  obtain ⟨p, _, hu⟩ := List.mem_flatMap.1 h
  simp only [rootC, List.mem_cons, List.not_mem_nil, or_false] at hu
  rcases hu with rfl | rfl | rfl <;> rfl
theorem flatR_take (l : List Rt) (i : Nat) (hi : i ≤ l.length) : (flatR l).take (i * 3) = flatR (l.take i) := by
  have h := flatR_append (l.take i) (l.drop i)
  rw [List.take_append_drop] at h
  rw [h, List.take_append_of_le_length (by rw [flatR_length, List.length_take]; omega), List.take_of_length_le (by rw [flatR_length, List.length_take]; omega)]
theorem flatR_drop (l : List Rt) (i : Nat) (hi : i ≤ l.length) : (flatR l).drop (i * 3) = flatR (l.drop i) := by
  have h := flatR_append (l.take i) (l.drop i)
  rw [List.take_append_drop] at h
  rw [h, List.drop_append_of_le_length (by rw [flatR_length, List.length_take]; omega), List.drop_of_length_le (by rw [flatR_length, List.length_take]; omega), List.nil_append]
theorem flatR_at : ∀ (l : List Rt) (i : Nat) (x : Rt), l[i]? = some x → ∀ c, c < 3 → (flatR l)[i * 3 + c]? = (rootC x)[c]?
  | [], i, x, h, c, hc => by simp at h
  | p :: l, 0, x, h, c, hc => by
    simp only [List.getElem?_cons_zero, Option.some.injEq] at h
    subst h
    unfold flatR
    rw [List.flatMap_cons, List.getElem?_append_left (by simp [rootC]; omega), Nat.zero_mul, Nat.zero_add]
  | p :: l, i + 1, x, h, c, hc => by
    have ih := flatR_at l i x (by simpa using h) c hc
    unfold flatR at ih ⊢
    rw [List.flatMap_cons, List.getElem?_append_right (by simp [rootC]; omega), ← ih]
    congr 1
    simp only [rootC, List.length_cons, List.length_nil]
    omega
theorem flatR_set : ∀ (l : List Rt) (i : Nat) (x : Rt) (B : Option Addr) (S : List Nat) (t : Tt Int), l[i]? = some x → (flatR l).set (i * 3 + 2) (.pointer B) = flatR (l.set i ⟨x.fam, x.rd, B, S, t⟩)
  | [], i, x, B, S, t, h => by simp at h
  | p :: l, 0, x, B, S, t, h => by
    simp only [List.getElem?_cons_zero, Option.some.injEq] at h
    subst h
    rfl
  | p :: l, i + 1, x, B, S, t, h => by
    have ih := flatR_set l i x B S t (by simpa using h)
    unfold flatR at ih ⊢
    rw [List.set_cons_succ, List.flatMap_cons, List.flatMap_cons, ← ih, List.set_append_right _ _ (by simp [rootC]; omega)]
    congr 2
    simp only [rootC, List.length_cons, List.length_nil]
    omega
/-- the order of roots -/
def rlt (f r g s : Int) : Prop := f < g ∨ (f = g ∧ r < s)
/-- a trie in memory -/
structure TrieAt (w : World) (bt base : Nat) (v : Value) (n : Int) (R : List Rt) : Prop where
  c : CellsAt w bt #[.bool true, v, .int .i64 n] 66
  o : OwnM w base 70 3 v R.length (flatR R)
  t : ∀ r ∈ R, TreeAt w r.S (.pointer r.A) r.t
  g : ∀ r ∈ R, r.t.Good r.fam r.rd (fun _ => True)
  f : ∀ r ∈ R, (r.fam = 1 ∨ r.fam = 2) ∧ r.rd = 0
  ord : R.Pairwise fun a b => rlt a.fam a.rd b.fam b.rd
  dis : R.Pairwise fun a b => ∀ x ∈ a.S, x ∉ b.S
  nt : ∀ r ∈ R, bt ∉ r.S
  nv : ∀ r ∈ R, ∀ k, v.ownBlock = some k → k ∉ r.S
  ne : ∀ k, v.ownBlock = some k → k ≠ bt
theorem two_roots {R : List Rt} (hf : ∀ r ∈ R, (r.fam = 1 ∨ r.fam = 2) ∧ r.rd = 0) (ho : R.Pairwise fun a b => rlt a.fam a.rd b.fam b.rd) : R.length ≤ 2 := by
  match R, hf, ho with
  | [], _, _ => simp
  | [_], _, _ => simp
  | [_, _], _, _ => simp
  | a :: b :: c :: R, hf, ho =>
    exfalso
    have h1 := hf a (by simp)
    have h2 := hf b (by simp)
    have h3 := hf c (by simp)
    rw [List.pairwise_cons, List.pairwise_cons] at ho
    have g1 := ho.1 b (by simp)
    have g2 := ho.2.1 c (by simp)
    unfold rlt at g1 g2
    omega
/-- whose blocks these are -/
def trX (bt : Nat) (v : Value) (R : List Rt) (x : Nat) : Prop := x = bt ∨ v.ownBlock = some x ∨ ∃ r ∈ R, x ∈ r.S
section
variable {w w' : World} {bt base : Nat} {v : Value} {n : Int} {R : List Rt}
theorem TrieAt.two (h : TrieAt w bt base v n R) : R.length ≤ 2 := two_roots h.f h.ord
theorem TrieAt.keep (h : TrieAt w bt base v n R) (hk : ∀ x, trX bt v R x → w'.heap[x]? = w.heap[x]?) : TrieAt w' bt base v n R :=
  ⟨(hk bt (Or.inl rfl)).trans h.c, h.o.keep fun k hv => hk k (Or.inr (Or.inl hv)), fun r hr => (h.t r hr).keep fun x hx => hk x (Or.inr (Or.inr ⟨r, hr, hx⟩)), h.g, h.f, h.ord, h.dis, h.nt, h.nv, h.ne⟩
theorem TrieAt.lt (h : TrieAt w bt base v n R) : ∀ x, trX bt v R x → x < w.heap.size := by
  rintro x (rfl | hx | ⟨r, hr, hx⟩)
  · exact h.c.lt
  · exact (h.o.lt x hx).2
  · exact (h.t r hr).lt x hx
theorem TrieAt.below (h : TrieAt w bt base v n R) (hb : Below w.heap.size w w') : TrieAt w' bt base v n R := h.keep fun x hx => hb.block x (h.lt x hx)
theorem TrieAt.grownX {X : Nat → Prop} (h : TrieAt w bt base v n R) (hg : GrownX X w w') (hx : ∀ x, trX bt v R x → ¬ X x) : TrieAt w' bt base v n R := h.keep fun x hs => hg.block x (h.lt x hs) (hx x hs)
theorem TrieAt.c3 (h : TrieAt w bt base v n R) : w.cell? ⟨bt, 0, none⟩ = some (.bool true) ∧ w.cell? ⟨bt, 1, none⟩ = some v ∧ w.cell? ⟨bt, 2, none⟩ = some (.int .i64 n) ∧ w.frozen? ⟨bt, 1, none⟩ = false ∧ w.frozen? ⟨bt, 2, none⟩ = false :=
  ⟨(h.c.c 0).trans rfl, (h.c.c 1).trans rfl, (h.c.c 2).trans rfl, h.c.frozen 1, h.c.frozen 2⟩
/-- a root's cells -/
theorem TrieAt.at_ {i : Nat} {r : Rt} (h : TrieAt w bt base v n R) (hi : R[i]? = some r) :
    ∃ g cap, v = .slice (some ⟨g, 0, none⟩) R.length cap ∧ g < w.heap.size ∧ R.length ≤ cap ∧ cap ≤ maxLen ∧ i < R.length ∧ g ≠ bt ∧ g ∉ r.S ∧
      w.cell? ⟨g, i * 3, none⟩ = some (.int .i64 r.fam) ∧ w.cell? ⟨g, i * 3 + 1, none⟩ = some (.int .u64 r.rd) ∧ w.cell? ⟨g, i * 3 + 2, none⟩ = some (.pointer r.A) ∧ w.frozen? ⟨g, i * 3 + 2, none⟩ = false := by
  have hl : i < R.length := (List.getElem?_eq_some_iff.1 hi).1
  have hm : r ∈ R := List.mem_of_getElem? hi
  obtain ⟨g, cap, rfl, _, hg, hn, hc, hcell, hfr⟩ := OwnM.cells h.o (by omega)
  have f := flatR_at R i r hi
  exact ⟨g, cap, rfl, hg, hn, hc, hl, h.ne g rfl, h.nv r hm g rfl, hcell _ _ (f 0 (by omega)), hcell _ _ (f 1 (by omega)), hcell _ _ (f 2 (by omega)), hfr _ (by omega)⟩
end

theorem tnone_any (bt : Nat) (w : World) (h : w.cell? ⟨bt, 0, none⟩ = some (.bool true)) : Calls Try.prog 30 #[.pointer (some ⟨bt, 0, none⟩)] w fun e w' => e = .returned (.bool false) ∧ w' = w := by
  go_enter Try.func30, Try.ntmps30
  go_wp2_with fail
  go_ret
  exact ⟨rfl, rfl⟩
/-- where a root stands, or would stand -/
def RootIs (R : List Rt) (p : Tp) (i : Nat) : Bool → Prop
  | true => ∃ r, R[i]? = some r ∧ r.fam = p.fam ∧ r.rd = p.rd
  | false => i ≤ R.length ∧ (∀ j r, R[j]? = some r → j < i → rlt r.fam r.rd p.fam p.rd) ∧ (∀ j r, R[j]? = some r → i ≤ j → rlt p.fam p.rd r.fam r.rd)
def RootPost (w : World) (R : List Rt) (p : Tp) (e : Ending) (w' : World) : Prop := ∃ i b, e = .returned (.tuple #[.int .i64 (i : Nat), .bool b]) ∧ RootIs R p i b ∧ Below w.heap.size w w'
theorem rlt_trans {a b c d e f : Int} (h : rlt a b c d) (g : rlt c d e f) : rlt a b e f := by
  unfold rlt at *
  omega
theorem RootIs.no {R : List Rt} {p : Tp} {k : Nat} {r : Rt} (ho : R.Pairwise fun a b => rlt a.fam a.rd b.fam b.rd) (hr : R[k]? = some r) (h : ∀ j r, R[j]? = some r → j < k → rlt r.fam r.rd p.fam p.rd) (hg : rlt p.fam p.rd r.fam r.rd) : RootIs R p k false := by
  have hk := (List.getElem?_eq_some_iff.1 hr).1
  refine ⟨by omega, h, fun j s hs hj => ?_⟩
  by_cases hjk : j = k
  · subst hjk
    rw [hr] at hs
    cases hs
    exact hg
  · have hjl := (List.getElem?_eq_some_iff.1 hs)
    obtain ⟨h1, h2⟩ := hjl
    obtain ⟨h3, h4⟩ := List.getElem?_eq_some_iff.1 hr
    have := List.pairwise_iff_getElem.1 ho k j h3 h1 (by omega)
    rw [h2, h4] at this
    exact rlt_trans hg this
set_option maxRecDepth 100000 in
set_option maxHeartbeats 4000000 in
theorem root_any (p : Tp) (bt base : Nat) (v : Value) (n : Int) (R : List Rt) (w : World) (h : TrieAt w bt base v n R) :
    Calls Try.prog 31 #[.pointer (some ⟨bt, 0, none⟩), p.v] w (RootPost w R p) := by
  have h2 := h.two
  obtain ⟨A, cap, rfl⟩ := h.o.form
  obtain ⟨t0, t1, t2, _⟩ := h.c3
  have HT := Lib.hid h
  have HO := Lib.hid h.ord
  have hbt := h.c.lt
  clear h
  unfold Tp.v
  have HB0 : Hid (Below w.heap.size w (w.alloc (.cells #[.int .i64 p.fam, .int .u64 p.rd, .string p.addr, .int .i64 (p.len : Nat)] 30))) := by
    show Below _ _ _
    exact (Below.refl _ _).alloc (Nat.le_refl _) _
  have HP0 : Hid (CellsAt (w.alloc (.cells #[.int .i64 p.fam, .int .u64 p.rd, .string p.addr, .int .i64 (p.len : Nat)] 30)) w.heap.size #[.int .i64 p.fam, .int .u64 p.rd, .string p.addr, .int .i64 (p.len : Nat)] 30) := CellsAt.new _ _ _
  have HZ : Hid (∀ j r, R[j]? = some r → j < 0 → rlt r.fam r.rd p.fam p.rd) := fun j r _ hj => absurd hj (by omega)
  go_enter Try.func31, Try.ntmps31
  go_wp2_with fail
  generalize w.alloc (.cells #[.int .i64 p.fam, .int .u64 p.rd, .string p.addr, .int .i64 (p.len : Nat)] 30) = W at HB0 HP0 ⊢
  clear t0 t1 t2
  go_loopw [13] (fun i wr => ∃ k : Nat, k ≤ R.length ∧ i = .int .i64 k ∧ Hid (Below W.heap.size W wr) ∧ Hid (∀ j r, R[j]? = some r → j < k → rlt r.fam r.rd p.fam p.rd)) (fun i _ => R.length + 1 - (intOf i).toNat)
  case atStart => exact ⟨0, Nat.zero_le _, rfl, Below.refl _ _, HZ⟩
  case round =>
    obtain ⟨k, hk, rfl, HBr, HJ⟩ := hrel
    have HPr : Hid (CellsAt wr w.heap.size #[.int .i64 p.fam, .int .u64 p.rd, .string p.addr, .int .i64 (p.len : Nat)] 30) := HP0.out.below HBr.out HP0.out.lt
    have HBw : Hid (Below w.heap.size w wr) := HB0.out.trans (HBr.out.mono HB0.out.size)
    obtain ⟨p0, p1, p2, p3, _⟩ := c4_at HPr.out
    have hszr := HPr.out.lt
    by_cases hlt : k < R.length
    · obtain ⟨r, hr⟩ : ∃ r, R[k]? = some r := ⟨R[k], List.getElem?_eq_getElem hlt⟩
      obtain ⟨g, cap2, hv, hgl, hnc, hcm, _, _, _, r0, r1, r2, _⟩ := (HT.out.below HBw.out).at_ hr
      simp only [Value.slice.injEq] at hv
      obtain ⟨rfl, _, rfl⟩ := hv
      have HR := Lib.hid hr
      have HNO := Lib.hid (fun h => RootIs.no HO.out hr HJ.out h (p := p))
      have HYES : Hid (r.fam = p.fam → r.rd = p.rd → RootIs R p k true) := fun h1 h2 => ⟨r, HR.out, h1, h2⟩
      have HJ2 : Hid (rlt r.fam r.rd p.fam p.rd → ∀ j r, R[j]? = some r → j < k + 1 → rlt r.fam r.rd p.fam p.rd) := fun h j s hs hj => by
        by_cases hjk : j = k
        · subst hjk
          rw [HR.out] at hs
          cases hs
          exact h
        · exact HJ.out j s hs (by omega)
      clear hr
      obtain ⟨f, d, A2, S2, T2⟩ := r
      simp only at HNO HYES HJ2 r0 r1 r2
      by_cases hf : f = p.fam
      · have e1 : (f == p.fam) = true := by rw [beq_iff_eq]; exact hf
        by_cases hd : d = p.rd
        · have e2 : (d == p.rd) = true := by rw [beq_iff_eq]; exact hd
          have HA := Lib.hid (HYES.out hf hd)
          clear hf hd
          go_wp2_with fail
          go_ret2
          exact ⟨k, true, rfl, HA.out, HBw.out.alloc HBw.out.size _⟩
        · have e2 : (d == p.rd) = false := by rw [beq_eq_false_iff_ne]; exact hd
          have e3 : decide (p.fam < f) = false := decide_eq_false (by omega)
          by_cases hgt : p.rd < d
          · have e4 : decide (p.rd < d) = true := decide_eq_true hgt
            have HA := Lib.hid (HNO.out (Or.inr ⟨hf.symm, hgt⟩))
            clear hf hd hgt
            go_wp2_with fail
            go_ret2
            exact ⟨k, false, rfl, HA.out, HBw.out.alloc HBw.out.size _⟩
          · have e4 : decide (p.rd < d) = false := decide_eq_false hgt
            have HA := Lib.hid (HJ2.out (Or.inr ⟨hf, by omega⟩))
            clear hf hd hgt
            go_wp2_with fail
            exact ⟨⟨k + 1, by omega, by go_num, HBr.out.alloc HBr.out.size _, HA⟩, by simp [intOf]; omega⟩
      · have e1 : (f == p.fam) = false := by rw [beq_eq_false_iff_ne]; exact hf
        by_cases hgt : p.fam < f
        · have e3 : decide (p.fam < f) = true := decide_eq_true hgt
          have HA := Lib.hid (HNO.out (Or.inl hgt))
          clear hf hgt
          go_wp2_with fail
          go_ret2
          exact ⟨k, false, rfl, HA.out, HBw.out.alloc HBw.out.size _⟩
        · have e3 : decide (p.fam < f) = false := decide_eq_false hgt
          have HA := Lib.hid (HJ2.out (Or.inl (by omega)))
          clear hf hgt
          go_wp2_with fail
          exact ⟨⟨k + 1, by omega, by go_num, HBr.out.alloc HBr.out.size _, HA⟩, by simp [intOf]; omega⟩
    · obtain rfl : k = R.length := by omega
      obtain ⟨_, t1, _⟩ := (HT.out.below HBw.out).c3
      go_wp2_with fail
      go_ret2
      exact ⟨_, false, rfl, ⟨Nat.le_refl _, HJ.out, fun j r hr hj => absurd (List.getElem?_eq_some_iff.1 hr).1 (by omega)⟩, HBw.out⟩
end Go.Proofs.Ythnjepehiddogaa
