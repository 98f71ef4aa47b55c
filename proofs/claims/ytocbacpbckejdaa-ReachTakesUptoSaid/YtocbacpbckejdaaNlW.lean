/-
  Told prefixes that came in; two lists that are the same; ints that a call owns. Conditions: sizes.
-/
import Derived.Test.YtocbacpbckejdaaNlU
import Derived.Lib.SmallJoins
import Derived.BigRegion
set_option linter.unusedVariables false
set_option linter.unusedSimpArgs false
namespace Go.Proofs.Ytocbacpbckejdaa
open Go.RowKit
open Go.ChangeShapes Go.WideShapes Go.ChangeAt Go.Joins

def NlCs (cs : List Value) : Prop := ∃ n : Nl, n.Ok ∧ cs = n.cs
theorem list6 {α : Type} {l : List α} (h : l.length = 6) : ∃ a b c d e f, l = [a, b, c, d, e, f] := by
  match l, h with
  | [a, b, c, d, e, f], _ => exact ⟨a, b, c, d, e, f, rfl⟩
section
variable {H : Type} {enc : TypeId × Value → H} {w : World} {held : Bool} {base : Nat} {sp : Nat → Bool}
theorem nl_cs {n : Nat} {cs : List Value} {y : DataW H × List MemPlace} (h : DataW.trod enc Try.prog w base sp held n 47 cs = some y) : NlCs cs := by
  obtain ⟨xs, m, rfl, _, hlen, hxl, hf⟩ := DataW.trod_struct Try.underlying47 h
  have hc1 : Try.prog.cellsOf 47 = 6 := by kernel_rfl
  have hc2 : Try.prog.cellsOf 44 = 4 := by kernel_rfl
  have hc3 : Try.prog.cellsOf 9 = 1 := by kernel_rfl
  have hc4 : Try.prog.cellsOf 3 = 1 := by kernel_rfl
  have hc5 : Try.prog.cellsOf 42 = 1 := by kernel_rfl
  have hc6 : Try.prog.cellsOf 45 = 1 := by kernel_rfl
  rw [hc1] at hlen
  obtain ⟨a, b, c, d, e, f, rfl⟩ := list6 hlen
  have f0 := hf 0 _ rfl
  have f1 := hf 1 _ rfl
  have f2 := hf 2 _ rfl
  change DataW.trod enc Try.prog w base sp held m 44 (([a, b, c, d, e, f].drop 0).take (Try.prog.cellsOf 44)) = xs[0]? at f0
  change DataW.trod enc Try.prog w base sp held m 45 (([a, b, c, d, e, f].drop 4).take (Try.prog.cellsOf 45)) = xs[1]? at f1
  change DataW.trod enc Try.prog w base sp held m 45 (([a, b, c, d, e, f].drop 5).take (Try.prog.cellsOf 45)) = xs[2]? at f2
  simp only [hc2, hc6, List.drop_succ_cons, List.drop_zero, List.take_succ_cons, List.take_zero] at f0 f1 f2
  have x0 : xs[0]? = some (xs[0]'(by rw [hxl]; decide)) := List.getElem?_eq_getElem _
  have x1 : xs[1]? = some (xs[1]'(by rw [hxl]; decide)) := List.getElem?_eq_getElem _
  have x2 : xs[2]? = some (xs[2]'(by rw [hxl]; decide)) := List.getElem?_eq_getElem _
  rw [x0] at f0
  rw [x1] at f1
  rw [x2] at f2
  obtain ⟨id, rfl, i1, i2⟩ := isU32 Try.underlying45 f1
  obtain ⟨lb, rfl, l1, l2⟩ := isU32 Try.underlying45 f2
  obtain ⟨zs, m2, rfl, _, hlen2, hzl, hg⟩ := DataW.trod_struct Try.underlying44 f0
  have g0 := hg 0 _ rfl
  have g1 := hg 1 _ rfl
  have g2 := hg 2 _ rfl
  have g3 := hg 3 _ rfl
  change DataW.trod enc Try.prog w base sp held m2 3 (([a, b, c, d].drop 0).take (Try.prog.cellsOf 3)) = zs[0]? at g0
  change DataW.trod enc Try.prog w base sp held m2 42 (([a, b, c, d].drop 1).take (Try.prog.cellsOf 42)) = zs[1]? at g1
  change DataW.trod enc Try.prog w base sp held m2 9 (([a, b, c, d].drop 2).take (Try.prog.cellsOf 9)) = zs[2]? at g2
  change DataW.trod enc Try.prog w base sp held m2 3 (([a, b, c, d].drop 3).take (Try.prog.cellsOf 3)) = zs[3]? at g3
  simp only [hc3, hc4, hc5, List.drop_succ_cons, List.drop_zero, List.take_succ_cons, List.take_zero] at g0 g1 g2 g3
  have z0 : zs[0]? = some (zs[0]'(by rw [hzl]; decide)) := List.getElem?_eq_getElem _
  have z1 : zs[1]? = some (zs[1]'(by rw [hzl]; decide)) := List.getElem?_eq_getElem _
  have z2 : zs[2]? = some (zs[2]'(by rw [hzl]; decide)) := List.getElem?_eq_getElem _
  have z3 : zs[3]? = some (zs[3]'(by rw [hzl]; decide)) := List.getElem?_eq_getElem _
  rw [z0] at g0
  rw [z1] at g1
  rw [z2] at g2
  rw [z3] at g3
  obtain ⟨fm, rfl, f1a, f1b⟩ := isI64 Try.underlying3 g0
  obtain ⟨rd, rfl, r1, r2⟩ := isU64 Try.underlying42 g1
  obtain ⟨ad, had, _, hads⟩ := DataW.trod_string Try.underlying9 g2
  obtain ⟨ln, rfl, n1, n2⟩ := isI64 Try.underlying3 g3
  simp only [List.cons.injEq, and_true] at had
  subst had
  unfold maxLen at hads
  exact ⟨⟨fm, rd, ad, ln, id, lb⟩, ⟨⟨f1a, f1b⟩, ⟨r1, r2⟩, hads, ⟨n1, n2⟩, ⟨i1, i2⟩, ⟨l1, l2⟩⟩, rfl⟩

theorem elems_of_trod {P : Program} {t e : TypeId} {C fuel : Nat} {v : Value} {x : DataW H × List MemPlace} (ht : P.underlying t = some (.slice e)) (hC : P.cellsOf e = C) (hpos : 0 < C)
    (h : DataW.trod enc P w 0 (fun _ => true) held fuel t [v] = some x) :
    ∃ (A : Option Addr) (len cap : Nat), v = .slice A len cap ∧ ElemsIn w A len cap C (fun cs => ∃ (n : Nat) (y : DataW H × List MemPlace), DataW.trod enc P w 0 (fun _ => true) held n e cs = some y) := by
  subst hC
  rcases Go.Deep.open_slice ht h with ⟨hcs, _⟩ | ⟨a, l, c, m, n, D, Pl, hcs, hb, hl, hm, hmm, hx, hi⟩
  · simp only [List.cons.injEq, and_true] at hcs
    subst hcs
    exact ⟨none, 0, 0, rfl, Nat.le_refl _, by unfold maxLen; omega, fun _ => rfl, fun h => absurd h (by omega)⟩
  · simp only [List.cons.injEq, and_true] at hcs
    subst hcs
    refine ⟨some a, l, c, rfl, ?_⟩
    simp only [if_true] at hmm
    subst hmm
    refine ⟨hl, hm, (fun h => by cases h), fun hl0 => ?_⟩
    obtain ⟨b, off, spot⟩ := a
    obtain ⟨cs0, hc0, _⟩ := hi 0 (by omega)
    obtain ⟨_, hcl0, hat0⟩ := World.cells?_some hc0
    have h00 := hat0 0 hpos
    have hv0 : cs0[0]? = some (cs0[0]'(by omega)) := List.getElem?_eq_getElem (by omega)
    rw [hv0] at h00
    have hspot : spot = none := by simpa [Addr.add] using World.cell?_spot h00
    subst hspot
    refine ⟨b, off, rfl, ?_, fun i hil => ?_⟩
    · have := World.block_lt_of_cell? w _ h00
      simpa [Addr.add] using this
    · obtain ⟨cs', hc, ht'⟩ := hi i (by omega)
      obtain ⟨_, hcl, hat⟩ := World.cells?_some hc
      refine ⟨cs', hcl, ⟨n, _, ht'⟩, fun j hj => ?_⟩
      rw [← hat j hj, add_off, add_off]
set_option maxRecDepth 100000 in
/-- what is told of a family, as it came in -/
theorem open_told {v : Value} {d : DataW H} {p : List MemPlace} {b0 : Nat} (hval : Value.okWide Try.prog w .any b0 31 v) (h : DataW.Trod enc Try.prog w 0 (fun _ => true) held 31 v d p) :
    ∃ (fam : Int) (next : ByteArray) (A : Option Addr) (len cap : Nat), v = .agg #[.int .i64 fam, .string next, .slice A len cap] ∧ -9223372036854775808 ≤ fam ∧ fam ≤ 9223372036854775807 ∧ (next.size : Int) ≤ 9223372036854775807 ∧ ElemsIn w A len cap 6 NlCs := by
  obtain ⟨v0, v1, v2, y0, y1, y2, n, rfl, rfl, rfl, h0, h1, h2⟩ := open_agg3 Try.underlying31 (by kernel_rfl) (by kernel_rfl) hval h
  obtain ⟨fam, rfl, f1, f2⟩ := isI64 Try.underlying3 h0
  obtain ⟨next, hnx, _, hsz⟩ := DataW.trod_string Try.underlying9 h1
  simp only [List.cons.injEq, and_true] at hnx
  subst hnx
  unfold maxLen at hsz
  obtain ⟨A, len, cap, rfl, hE⟩ := elems_of_trod (C := 6) Try.underlying29 (by kernel_rfl) (by omega) h2
  exact ⟨fam, next, A, len, cap, rfl, f1, f2, by omega, hE.mono (fun cs ⟨n, y, hy⟩ => nl_cs hy)⟩
set_option maxRecDepth 100000 in
/-- ints that came in -/
theorem open_ints8 {v : Value} {d : DataW H} {ps : List MemPlace} {b0 : Nat} (hval : Value.okWide Try.prog w .any b0 39 v) (h : DataW.Trod enc Try.prog w 0 (fun _ => true) held 39 v d ps) :
    ∃ (A : Option Addr) (len cap : Nat), v = .slice A len cap ∧ ElemsIn w A len cap 1 (fun cs => ∃ n : Int, cs = [.int .i64 n]) := by
  obtain ⟨A, len, cap, rfl, hE⟩ := open_elems (C := 1) Try.underlying39 (by kernel_rfl) (by omega) hval h
  refine ⟨A, len, cap, rfl, ?_⟩
  obtain ⟨h1, h2, h3, h4⟩ := hE
  refine ⟨h1, h2, h3, fun hl => ?_⟩
  obtain ⟨b, off, hA, hb, hc⟩ := h4 hl
  refine ⟨b, off, hA, hb, fun i hi => ?_⟩
  obtain ⟨cs, hl1, ⟨n, y, hy⟩, hcell⟩ := hc i hi
  obtain ⟨z, rfl⟩ : ∃ z, cs = [z] := by
    match cs, hl1 with
    | [z], _ => exact ⟨z, rfl⟩
  obtain ⟨k, rfl, _⟩ := isI64 Try.underlying3 hy
  exact ⟨_, rfl, ⟨k, rfl⟩, hcell⟩
end

/-- elements that came in, as a list -/
theorem elems_list {w : World} {α : Type} {F : α → List Value} {E : α → Prop} {b off C : Nat} : ∀ k : Nat, (∀ i, i < k → ∃ cs : List Value, cs.length = C ∧ (∃ x, E x ∧ cs = F x) ∧ ∀ j, j < C → w.cell? ⟨b, off + i * C + j, none⟩ = cs[j]?) →
    ∃ L : List α, L.length = k ∧ (∀ x ∈ L, E x) ∧ ∀ i x, L[i]? = some x → (F x).length = C ∧ ∀ j, j < C → w.cell? ⟨b, off + i * C + j, none⟩ = (F x)[j]?
  | 0, _ => ⟨[], rfl, (fun x h => by cases h), fun i x h => by cases h⟩
  | k + 1, h => by
    obtain ⟨L, hl, hE, hL⟩ := elems_list (w := w) (F := F) (E := E) (b := b) (off := off) (C := C) k (fun i hi => h i (by omega))
    obtain ⟨cs, h1, ⟨x, hx, rfl⟩, h3⟩ := h k (by omega)
    refine ⟨L ++ [x], by simp [hl], (fun y hy => ?_), fun i y hi => ?_⟩
    · rcases List.mem_append.1 hy with hy | hy
      · exact hE y hy
      · rw [List.mem_singleton.1 hy]; exact hx
    · by_cases hik : i < k
      · rw [List.getElem?_append_left (by omega)] at hi
        exact hL i y hi
      · have hi2 := (List.getElem?_eq_some_iff.1 hi).1
        rw [List.length_append, List.length_singleton] at hi2
        obtain rfl : i = k := by omega
        rw [List.getElem?_append_right (by omega), hl, Nat.sub_self] at hi
        obtain rfl : x = y := by simpa using hi
        exact ⟨h1, h3⟩
theorem NlRow.of_elems {w : World} {A : Option Addr} {len cap k : Nat} (h : ElemsIn w A len cap 6 NlCs) (hk : k ≤ len) : ∃ L, NlRow w A k cap L := by
  obtain ⟨h1, h2, h3, h4⟩ := h
  rcases Nat.eq_zero_or_pos k with h0 | h0
  · subst h0
    exact ⟨[], rfl, Nat.zero_le _, h2, h3, (fun n hn => by cases hn), fun hl => absurd hl (by omega)⟩
  · obtain ⟨b, off, rfl, hb, hc⟩ := h4 (by omega)
    obtain ⟨L, hl, hE, hL⟩ := elems_list (w := w) (F := Nl.cs) (E := Nl.Ok) (b := b) (off := off) (C := 6) k (fun i hi => hc i (by omega))
    refine ⟨L, hl, by omega, h2, h3, hE, fun _ => ⟨b, off, rfl, hb, fun i n hi => ?_⟩⟩
    have hq := (hL i n hi).2
    exact ⟨(hq 0 (by omega)).trans rfl, (hq 1 (by omega)).trans rfl, (hq 2 (by omega)).trans rfl, (hq 3 (by omega)).trans rfl, (hq 4 (by omega)).trans rfl, (hq 5 (by omega)).trans rfl⟩
theorem IntAt.of_elems {w : World} {A : Option Addr} {len cap k : Nat} (h : ElemsIn w A len cap 1 (fun cs => ∃ n : Int, cs = [.int .i64 n])) (hk : k ≤ len) : ∃ L : List Int, L.length = k ∧ IntAt w A cap L := by
  obtain ⟨h1, h2, h3, h4⟩ := h
  rcases Nat.eq_zero_or_pos k with h0 | h0
  · subst h0
    exact ⟨[], rfl, fun hl => absurd hl (by simp), Nat.zero_le _, h2⟩
  · obtain ⟨b, off, rfl, hb, hc⟩ := h4 (by omega)
    obtain ⟨L, hl, hE, hL⟩ := elems_list (w := w) (F := fun n : Int => [.int .i64 n]) (E := fun _ => True) (b := b) (off := off) (C := 1) k (fun i hi => by
      obtain ⟨cs, q1, ⟨n, q2⟩, q3⟩ := hc i (by omega)
      exact ⟨cs, q1, ⟨n, trivial, q2⟩, q3⟩)
    refine ⟨L, hl, fun _ => ⟨b, off, rfl, hb, fun i n hi => ?_⟩, by omega, h2⟩
    have hq := (hL i n hi).2 0 (by omega)
    rw [Nat.mul_one, Nat.add_zero] at hq
    exact hq.trans rfl

theorem NlRow.drewN {w : World} {A : Option Addr} {len cap : Nat} {L : List Nl} (h : NlRow w A len cap L) (q : Nat) : NlRow (w.drewN q) A len cap L := h.below (below_drewN (Below.refl _ _) q) (Nat.le_refl _)

set_option maxRecDepth 100000 in
set_option maxHeartbeats 4000000 in
theorem same8_any (A B : Option Addr) (len ca cb : Nat) (L : List Nl) (w : World) (ha : NlRow w A len ca L) (hb : NlRow w B len cb L) : Calls Try.prog 25 #[.slice A len ca, .slice B len cb] w fun e w' => e = .returned (.bool true) ∧ ∃ q, w' = w.drewN q := by
  have HA := Lib.hid ha
  have HB := Lib.hid hb
  have e0 : ((len : Int) == (len : Int)) = true := by simp
  have e0' : ((len : Int) != (len : Int)) = false := by simp
  have hla := ha.hle
  have hlb := hb.hle
  have hca : ca ≤ 9223372036854775807 := ha.hcap
  have hcb : cb ≤ 9223372036854775807 := hb.hcap
  have hll := ha.hlen
  clear ha hb
  go_enter Try.func25, Try.ntmps25
  go_wp2_with fail
  go_loopw [5] (fun i wr => ∃ k : Nat, k ≤ len ∧ i = .int .i64 k ∧ ∃ q, wr = w.drewN q) (fun i _ => len + 1 - (intOf i).toNat)
  case atStart => exact ⟨0, Nat.zero_le _, rfl, 0, rfl⟩
  case round =>
    obtain ⟨k, hk, rfl, q, rfl⟩ := hrel
    by_cases hlt : k < len
    · obtain ⟨n, hn⟩ : ∃ n, L[k]? = some n := ⟨L[k], List.getElem?_eq_getElem (by omega)⟩
      obtain ⟨b1, o1, rfl, hb1, hc1⟩ := (HA.out.drewN q).at_ (by omega)
      obtain ⟨b2, o2, rfl, hb2, hc2⟩ := (HB.out.drewN q).at_ (by omega)
      have HC1 := Lib.hid (hc1 k n hn)
      have HC2 := Lib.hid (hc2 k n hn)
      clear hc1 hc2 hn
      go_wp2_with fail
      refine wp_region_held_drew (S := fun w' => Below (w.drewN q).heap.size (w.drewN q) w') (by kernel_rfl) (below_drewN (Below.refl _ _) 1) (fun hHeld => ?_)
      refine wpAnyH_take (i := 0) (oi := { dst := some 17, op := Op.move (Operand.tmp 0), type := 29, pos := "outright.go:30", after := #[], guard := none }) (v := ?_) rfl (by kernel_rfl) (by kernel_rfl) (by kernel_rfl) (fun _ _ _ h => h) (Or.inl ⟨by rfl, ?_⟩) hHeld ?_
      rotate_left
      · intro w hSw
        clear hSw
        go_simp
        try with_reducible rfl
      try simp only [Act.put, List.setIfInBounds_toArray, List.set_cons_zero, List.set_cons_succ]
      refine wpAnyH_take (i := 1) (oi := { dst := some 18, op := Op.move (Operand.tmp 5), type := 3, pos := "outright.go:30", after := #[], guard := none }) (v := ?_) rfl (by kernel_rfl) (by kernel_rfl) (by kernel_rfl) (fun _ _ _ h => h) (Or.inl ⟨by rfl, ?_⟩) hHeld ?_
      rotate_left
      · intro w hSw
        clear hSw
        go_simp
        try with_reducible rfl
      try simp only [Act.put, List.setIfInBounds_toArray, List.set_cons_zero, List.set_cons_succ]
      refine wpAnyH_take (i := 2) (oi := { dst := some 19, op := Op.indexAddr 29 (Operand.tmp 17) (Operand.tmp 18), type := 0, pos := "outright.go:30", after := #[{ on := 0, ground := Ground.data }, { on := 1, ground := Ground.data }], guard := none }) (v := ?_) rfl (by kernel_rfl) (by kernel_rfl) (by kernel_rfl) (fun _ _ _ h => h) (Or.inl ⟨by rfl, ?_⟩) hHeld ?_
      rotate_left
      · intro w hSw
        clear hSw
        go_simp
        try with_reducible rfl
      try simp only [Act.put, List.setIfInBounds_toArray, List.set_cons_zero, List.set_cons_succ]
      refine wpAnyH_take (i := 3) (oi := { dst := some 20, op := Op.load 47 (Operand.tmp 19), type := 47, pos := "outright.go:30", after := #[{ on := 2, ground := Ground.data }], guard := none }) (v := ?_) rfl (by kernel_rfl) (by kernel_rfl) (by kernel_rfl) (fun _ _ _ h => h) (Or.inl ⟨by rfl, ?_⟩) hHeld ?_
      rotate_left
      · intro w hSw
        obtain ⟨x0, x1, x2, x3, x4, x5⟩ := HC1.out.below hSw hb1
        obtain ⟨y0, y1, y2, y3, y4, y5⟩ := HC2.out.below hSw hb2
        go_simp
        try with_reducible rfl
      try simp only [Act.put, List.setIfInBounds_toArray, List.set_cons_zero, List.set_cons_succ]
      refine wpAnyH_take (i := 4) (oi := { dst := some 21, op := Op.move (Operand.tmp 1), type := 29, pos := "outright.go:30", after := #[], guard := none }) (v := ?_) rfl (by kernel_rfl) (by kernel_rfl) (by kernel_rfl) (fun _ _ _ h => h) (Or.inl ⟨by rfl, ?_⟩) hHeld ?_
      rotate_left
      · intro w hSw
        clear hSw
        go_simp
        try with_reducible rfl
      try simp only [Act.put, List.setIfInBounds_toArray, List.set_cons_zero, List.set_cons_succ]
      refine wpAnyH_take (i := 5) (oi := { dst := some 22, op := Op.move (Operand.tmp 5), type := 3, pos := "outright.go:30", after := #[], guard := none }) (v := ?_) rfl (by kernel_rfl) (by kernel_rfl) (by kernel_rfl) (fun _ _ _ h => h) (Or.inl ⟨by rfl, ?_⟩) hHeld ?_
      rotate_left
      · intro w hSw
        clear hSw
        go_simp
        try with_reducible rfl
      try simp only [Act.put, List.setIfInBounds_toArray, List.set_cons_zero, List.set_cons_succ]
      refine wpAnyH_take (i := 6) (oi := { dst := some 23, op := Op.indexAddr 29 (Operand.tmp 21) (Operand.tmp 22), type := 0, pos := "outright.go:30", after := #[{ on := 4, ground := Ground.data }, { on := 5, ground := Ground.data }], guard := none }) (v := ?_) rfl (by kernel_rfl) (by kernel_rfl) (by kernel_rfl) (fun _ _ _ h => h) (Or.inl ⟨by rfl, ?_⟩) hHeld ?_
      rotate_left
      · intro w hSw
        clear hSw
        go_simp
        try with_reducible rfl
      try simp only [Act.put, List.setIfInBounds_toArray, List.set_cons_zero, List.set_cons_succ]
      refine wpAnyH_take (i := 7) (oi := { dst := some 24, op := Op.load 47 (Operand.tmp 23), type := 47, pos := "outright.go:30", after := #[{ on := 6, ground := Ground.data }], guard := none }) (v := ?_) rfl (by kernel_rfl) (by kernel_rfl) (by kernel_rfl) (fun _ _ _ h => h) (Or.inl ⟨by rfl, ?_⟩) hHeld ?_
      rotate_left
      · intro w hSw
        obtain ⟨x0, x1, x2, x3, x4, x5⟩ := HC1.out.below hSw hb1
        obtain ⟨y0, y1, y2, y3, y4, y5⟩ := HC2.out.below hSw hb2
        go_simp
        try with_reducible rfl
      try simp only [Act.put, List.setIfInBounds_toArray, List.set_cons_zero, List.set_cons_succ]
      refine wpAnyH_take (i := 8) (oi := { dst := some 25, op := Op.binOp BinOp.neq 47 (Operand.tmp 20) (Operand.tmp 24) 47, type := 4, pos := "outright.go:30", after := #[{ on := 3, ground := Ground.data }, { on := 7, ground := Ground.data }], guard := none }) (v := ?_) rfl (by kernel_rfl) (by kernel_rfl) (by kernel_rfl) (fun _ _ _ h => h) (Or.inl ⟨by rfl, ?_⟩) hHeld ?_
      rotate_left
      · intro w hSw
        clear hSw
        go_simp
        try with_reducible rfl
      try simp only [Act.put, List.setIfInBounds_toArray, List.set_cons_zero, List.set_cons_succ]
      refine wpAnyH_done (by kernel_rfl) ?_ _
      clear hHeld
      go_wp2_with fail
      exact ⟨⟨k + 1, by omega, by go_num, q + 1, rfl⟩, by simp [intOf]; omega⟩
    · go_wp2_with fail
      go_ret
      exact ⟨rfl, q, rfl⟩
set_option maxRecDepth 100000 in
set_option maxHeartbeats 4000000 in
theorem rsame8_any (A B : Option Addr) (len ca cb : Nat) (L : List Nl) (w : World) (ha : NlRow w A len ca L) (hb : NlRow w B len cb L) : Calls Try.prog 22 #[.slice A len ca, .slice B len cb] w fun e w' => e = .returned (.bool true) ∧ ∃ q, w' = w.drewN q := by
  have HA := Lib.hid ha
  have HB := Lib.hid hb
  have e0 : ((len : Int) == (len : Int)) = true := by simp
  have e0' : ((len : Int) != (len : Int)) = false := by simp
  have hla := ha.hle
  have hlb := hb.hle
  have hca : ca ≤ 9223372036854775807 := ha.hcap
  have hcb : cb ≤ 9223372036854775807 := hb.hcap
  have hll := ha.hlen
  clear ha hb
  go_enter Try.func22, Try.ntmps22
  go_wp2_with fail
  go_loopw [5] (fun i wr => ∃ k : Nat, k ≤ len ∧ i = .int .i64 k ∧ ∃ q, wr = w.drewN q) (fun i _ => len + 1 - (intOf i).toNat)
  case atStart => exact ⟨0, Nat.zero_le _, rfl, 0, rfl⟩
  case round =>
    obtain ⟨k, hk, rfl, q, rfl⟩ := hrel
    by_cases hlt : k < len
    · obtain ⟨n, hn⟩ : ∃ n, L[k]? = some n := ⟨L[k], List.getElem?_eq_getElem (by omega)⟩
      obtain ⟨b1, o1, rfl, hb1, hc1⟩ := (HA.out.drewN q).at_ (by omega)
      obtain ⟨b2, o2, rfl, hb2, hc2⟩ := (HB.out.drewN q).at_ (by omega)
      have HC1 := Lib.hid (hc1 k n hn)
      have HC2 := Lib.hid (hc2 k n hn)
      clear hc1 hc2 hn
      go_wp2_with fail
      refine wp_region_held_drew (S := fun w' => Below (w.drewN q).heap.size (w.drewN q) w') (by kernel_rfl) (below_drewN (Below.refl _ _) 1) (fun hHeld => ?_)
      refine wpAnyH_take (i := 0) (oi := { dst := some 17, op := Op.move (Operand.tmp 0), type := 29, pos := "ref.go:166", after := #[], guard := none }) (v := ?_) rfl (by kernel_rfl) (by kernel_rfl) (by kernel_rfl) (fun _ _ _ h => h) (Or.inl ⟨by rfl, ?_⟩) hHeld ?_
      rotate_left
      · intro w hSw
        clear hSw
        go_simp
        try with_reducible rfl
      try simp only [Act.put, List.setIfInBounds_toArray, List.set_cons_zero, List.set_cons_succ]
      refine wpAnyH_take (i := 1) (oi := { dst := some 18, op := Op.move (Operand.tmp 5), type := 3, pos := "ref.go:166", after := #[], guard := none }) (v := ?_) rfl (by kernel_rfl) (by kernel_rfl) (by kernel_rfl) (fun _ _ _ h => h) (Or.inl ⟨by rfl, ?_⟩) hHeld ?_
      rotate_left
      · intro w hSw
        clear hSw
        go_simp
        try with_reducible rfl
      try simp only [Act.put, List.setIfInBounds_toArray, List.set_cons_zero, List.set_cons_succ]
      refine wpAnyH_take (i := 2) (oi := { dst := some 19, op := Op.indexAddr 29 (Operand.tmp 17) (Operand.tmp 18), type := 0, pos := "ref.go:166", after := #[{ on := 0, ground := Ground.data }, { on := 1, ground := Ground.data }], guard := none }) (v := ?_) rfl (by kernel_rfl) (by kernel_rfl) (by kernel_rfl) (fun _ _ _ h => h) (Or.inl ⟨by rfl, ?_⟩) hHeld ?_
      rotate_left
      · intro w hSw
        clear hSw
        go_simp
        try with_reducible rfl
      try simp only [Act.put, List.setIfInBounds_toArray, List.set_cons_zero, List.set_cons_succ]
      refine wpAnyH_take (i := 3) (oi := { dst := some 20, op := Op.load 47 (Operand.tmp 19), type := 47, pos := "ref.go:166", after := #[{ on := 2, ground := Ground.data }], guard := none }) (v := ?_) rfl (by kernel_rfl) (by kernel_rfl) (by kernel_rfl) (fun _ _ _ h => h) (Or.inl ⟨by rfl, ?_⟩) hHeld ?_
      rotate_left
      · intro w hSw
        obtain ⟨x0, x1, x2, x3, x4, x5⟩ := HC1.out.below hSw hb1
        obtain ⟨y0, y1, y2, y3, y4, y5⟩ := HC2.out.below hSw hb2
        go_simp
        try with_reducible rfl
      try simp only [Act.put, List.setIfInBounds_toArray, List.set_cons_zero, List.set_cons_succ]
      refine wpAnyH_take (i := 4) (oi := { dst := some 21, op := Op.move (Operand.tmp 1), type := 29, pos := "ref.go:166", after := #[], guard := none }) (v := ?_) rfl (by kernel_rfl) (by kernel_rfl) (by kernel_rfl) (fun _ _ _ h => h) (Or.inl ⟨by rfl, ?_⟩) hHeld ?_
      rotate_left
      · intro w hSw
        clear hSw
        go_simp
        try with_reducible rfl
      try simp only [Act.put, List.setIfInBounds_toArray, List.set_cons_zero, List.set_cons_succ]
      refine wpAnyH_take (i := 5) (oi := { dst := some 22, op := Op.move (Operand.tmp 5), type := 3, pos := "ref.go:166", after := #[], guard := none }) (v := ?_) rfl (by kernel_rfl) (by kernel_rfl) (by kernel_rfl) (fun _ _ _ h => h) (Or.inl ⟨by rfl, ?_⟩) hHeld ?_
      rotate_left
      · intro w hSw
        clear hSw
        go_simp
        try with_reducible rfl
      try simp only [Act.put, List.setIfInBounds_toArray, List.set_cons_zero, List.set_cons_succ]
      refine wpAnyH_take (i := 6) (oi := { dst := some 23, op := Op.indexAddr 29 (Operand.tmp 21) (Operand.tmp 22), type := 0, pos := "ref.go:166", after := #[{ on := 4, ground := Ground.data }, { on := 5, ground := Ground.data }], guard := none }) (v := ?_) rfl (by kernel_rfl) (by kernel_rfl) (by kernel_rfl) (fun _ _ _ h => h) (Or.inl ⟨by rfl, ?_⟩) hHeld ?_
      rotate_left
      · intro w hSw
        clear hSw
        go_simp
        try with_reducible rfl
      try simp only [Act.put, List.setIfInBounds_toArray, List.set_cons_zero, List.set_cons_succ]
      refine wpAnyH_take (i := 7) (oi := { dst := some 24, op := Op.load 47 (Operand.tmp 23), type := 47, pos := "ref.go:166", after := #[{ on := 6, ground := Ground.data }], guard := none }) (v := ?_) rfl (by kernel_rfl) (by kernel_rfl) (by kernel_rfl) (fun _ _ _ h => h) (Or.inl ⟨by rfl, ?_⟩) hHeld ?_
      rotate_left
      · intro w hSw
        obtain ⟨x0, x1, x2, x3, x4, x5⟩ := HC1.out.below hSw hb1
        obtain ⟨y0, y1, y2, y3, y4, y5⟩ := HC2.out.below hSw hb2
        go_simp
        try with_reducible rfl
      try simp only [Act.put, List.setIfInBounds_toArray, List.set_cons_zero, List.set_cons_succ]
      refine wpAnyH_take (i := 8) (oi := { dst := some 25, op := Op.binOp BinOp.neq 47 (Operand.tmp 20) (Operand.tmp 24) 47, type := 4, pos := "ref.go:166", after := #[{ on := 3, ground := Ground.data }, { on := 7, ground := Ground.data }], guard := none }) (v := ?_) rfl (by kernel_rfl) (by kernel_rfl) (by kernel_rfl) (fun _ _ _ h => h) (Or.inl ⟨by rfl, ?_⟩) hHeld ?_
      rotate_left
      · intro w hSw
        clear hSw
        go_simp
        try with_reducible rfl
      try simp only [Act.put, List.setIfInBounds_toArray, List.set_cons_zero, List.set_cons_succ]
      refine wpAnyH_done (by kernel_rfl) ?_ _
      clear hHeld
      go_wp2_with fail
      exact ⟨⟨k + 1, by omega, by go_num, q + 1, rfl⟩, by simp [intOf]; omega⟩
    · go_wp2_with fail
      go_ret
      exact ⟨rfl, q, rfl⟩
end Go.Proofs.Ytocbacpbckejdaa
