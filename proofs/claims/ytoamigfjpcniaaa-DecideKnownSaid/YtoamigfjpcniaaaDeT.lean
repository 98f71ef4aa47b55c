/-
  What next hops cost; which paths can be taken; the list of paths. Conditions: sizes.
-/
import Derived.Test.YtoamigfjpcniaaaDeS
set_option linter.unusedVariables false
set_option linter.unusedSimpArgs false
namespace Go.Proofs.Ytoamigfjpcniaaa
open Go.RowKit Go.MapKept Go.Shelf
open Go.Lib hiding intOf

/-- what price says -/
def priceF (s : ByteArray) : Option Int := if h : s.size = 4 then (if ((s[3]'(by omega)).toNat : Int) = 3 then none else some ((s[3]'(by omega)).toNat : Int)) else none
set_option maxHeartbeats 4000000 in
theorem price_any (s : ByteArray) (w : World) : Calls Try.prog 10 #[.string s] w fun e w' => e = .returned (costV (priceF s)) ∧ Below w.heap.size w w' := by
  by_cases h4 : s.size = 4
  · by_cases hy : ((s[3]'(by omega)).toNat : Int) = 3
    · have HP : Hid (priceF s = none) := by
        show _ = _
        unfold priceF
        rw [dif_pos h4, if_pos hy]
      have q : (((s[3]'(by omega)).toNat : Int) == 3) = true := by rw [hy]; rfl
      go_enter Try.func10, Try.ntmps10
      go_wp2_with fail
      go_ret2
      exact ⟨by rw [HP.out]; rfl, Below.refl _ _⟩
    · have HP : Hid (priceF s = some ((s[3]'(by omega)).toNat : Int)) := by
        show _ = _
        unfold priceF
        rw [dif_pos h4, if_neg hy]
      have q : (((s[3]'(by omega)).toNat : Int) == 3) = false := by rw [beq_eq_false_iff_ne]; exact hy
      have hw : wrap64 ((s[3]'(by omega)).toNat : Int) = ((s[3]'(by omega)).toNat : Int) := by
        have := (s[3]'(by omega)).toNat_lt
        unfold wrap64
        omega
      go_enter Try.func10, Try.ntmps10
      go_wp2_with fail
      go_ret2
      exact ⟨by rw [HP.out]; rfl, Below.refl _ _⟩
  · have HP : Hid (priceF s = none) := by
      show _ = _
      unfold priceF
      rw [dif_neg h4]
    have q : ((s.size : Int) != 4) = true := by rw [bne_iff_ne]; omega
    go_enter Try.func10, Try.ntmps10
    go_wp2_with fail
    go_ret2
    exact ⟨by rw [HP.out]; rfl, Below.refl _ _⟩
theorem price_cost (w : World) : CostOk w 10 #[] priceF := ⟨enters Try.func10 (by kernel_rfl) rfl, fun w' s _ => price_any s w'⟩
/-- can it be taken? -/
def takenF (p : Pt) : Bool := (costP priceF p).isSome
set_option maxRecDepth 100000 in
set_option maxHeartbeats 4000000 in
theorem taken_any (p : Pt) (w : World) : Calls Try.prog 11 #[p.v] w fun e w' => e = .returned (.bool (takenF p)) ∧ Below w.heap.size w w' := by
  have HPR := Lib.hid price_any
  have HC : Hid (CellsAt (w.alloc (.cells p.cs 38)) w.heap.size p.cs 38) := CellsAt.new _ _ _
  have HB : Hid (Below w.heap.size w (w.alloc (.cells p.cs 38))) := (Below.refl _ _).alloc (Nat.le_refl _) _
  have l8 := (HC.out.c 8).trans (show p.cs[8]? = some (.string p.next) from by kernel_rfl)
  rw [Pt.v_cs]
  go_enter Try.func11, Try.ntmps11
  go_wp2_with fail
  refine (HPR.out _ _).mono ?_
  rintro e w1 ⟨rfl, hb⟩
  have HB1 : Hid (Below w.heap.size w w1) := HB.out.trans (hb.mono (by simp))
  have HC1 : Hid (CellsAt w1 w.heap.size p.cs 38) := HC.out.below hb (by simp)
  have l22 := (HC1.out.c 22).trans (show p.cs[22]? = some (.int .i64 p.kind) from by kernel_rfl)
  clear l8 hb HB HC
  cases hp : priceF p.next with
  | none =>
    have e1 : costV none = .tuple #[.int .i64 0, .bool false] := rfl
    rw [e1]
    have HT : Hid (takenF p = (p.kind == 1)) := by
      show _ = _
      unfold takenF costP
      by_cases hk : p.kind = 1
      · rw [if_pos hk, hk]; rfl
      · rw [if_neg hk, hp, beq_eq_false_iff_ne.2 hk]; rfl
    clear hp
    go_wp2_with fail
    go_ret
    exact ⟨by rw [HT.out]; rfl, HB1.out⟩
  | some c =>
    have e1 : costV (some c) = .tuple #[.int .i64 c, .bool true] := rfl
    rw [e1]
    have HT : Hid (takenF p = true) := by
      show _ = _
      unfold takenF costP
      by_cases hk : p.kind = 1
      · rw [if_pos hk]; rfl
      · rw [if_neg hk, hp]; rfl
    clear hp
    go_wp2_with fail
    go_ret
    exact ⟨by rw [HT.out]; rfl, HB1.out⟩

/-- paths' cells -/
def Psv (ps : List Pt) : List Value := ps.flatMap fun p => p.cs.toList
theorem Psv_length : ∀ ps : List Pt, (Psv ps).length = ps.length * 29
  | [] => rfl
  | p :: ps => by
    have ih := Psv_length ps
    unfold Psv at ih ⊢
    rw [List.flatMap_cons, List.length_append, ih, Array.length_toList, Pt.cs_size, List.length_cons]
    omega
theorem Psv_append (xs ys : List Pt) : Psv (xs ++ ys) = Psv xs ++ Psv ys := List.flatMap_append
theorem Psv_one (x : Pt) : Psv [x] = x.cs.toList := by unfold Psv; rw [List.flatMap_cons, List.flatMap_nil, List.append_nil]
theorem Psv_at : ∀ (xs : List Pt) (i : Nat) (x : Pt), xs[i]? = some x → ∀ (j : Nat) u, x.cs.toList[j]? = some u → (Psv xs)[i * 29 + j]? = some u
  | [], i, x, h, j, u, hu => by simp at h
  | y :: xs, 0, x, h, j, u, hu => by
    simp only [List.getElem?_cons_zero, Option.some.injEq] at h
    subst h
    unfold Psv
    rw [List.flatMap_cons, List.getElem?_append_left (by have := (List.getElem?_eq_some_iff.1 hu).1; omega), Nat.zero_mul, Nat.zero_add]
    exact hu
  | y :: xs, i + 1, x, h, j, u, hu => by
    have ih := Psv_at xs i x (by simpa using h) j u hu
    unfold Psv at ih ⊢
    have hl : y.cs.toList.length = 29 := by rw [Array.length_toList, Pt.cs_size]
    rw [List.flatMap_cons, List.getElem?_append_right (by rw [hl]; omega), ← ih, hl]
    congr 1
    omega
/-- paths in a slice that a call made -/
def PsOwn (w : World) (base : Nat) (v : Value) (ps : List Pt) : Prop := OwnM w base 38 29 v ps.length (Psv ps)
theorem PsOwn.nil (w : World) (base : Nat) : PsOwn w base (.slice none 0 0) [] := OwnM.nil _ _ _ _
theorem PsOwn.alloc {w : World} {base : Nat} {v : Value} {xs : List Pt} (h : PsOwn w base v xs) (o : Obj) : PsOwn (w.alloc o) base v xs := OwnM.alloc h o
theorem PsOwn.below {w w' : World} {base B : Nat} {v : Value} {xs : List Pt} (h : PsOwn w base v xs) (hb : Below B w w') (hB : w.heap.size ≤ B) : PsOwn w' base v xs := OwnM.below h hb hB
theorem PsOwn.at_ {w : World} {base : Nat} {v : Value} {xs : List Pt} (h : PsOwn w base v xs) (hok : ∀ x ∈ xs, PtOk w x) : ∃ A c, v = .slice A xs.length c ∧ PsAt w A c xs := by
  rcases Nat.eq_zero_or_pos xs.length with h0 | h0
  · obtain rfl : xs = [] := List.eq_nil_of_length_eq_zero h0
    rcases h.2 with ⟨h2, _⟩ | ⟨g, cap, cur, fr, h2, _, _, _, h4, h5, _⟩
    · exact ⟨none, 0, h2, fun hl => absurd hl (by simp), Nat.le_refl _, Nat.zero_le _, hok⟩
    · exact ⟨_, cap, h2, fun hl => absurd hl (by simp), h4, h5, hok⟩
  · obtain ⟨g, cap, hv, hb, hg, hn, hc, hcell, _⟩ := OwnM.cells h h0
    refine ⟨_, cap, hv, fun _ => ⟨g, 0, rfl, hg, fun i cs hi j u hu => ?_⟩, hn, hc, hok⟩
    rw [List.getElem?_map] at hi
    cases hx : xs[i]? with
    | none => rw [hx] at hi; cases hi
    | some x =>
      rw [hx] at hi
      simp only [Option.map_some, Option.some.injEq] at hi
      subst hi
      rw [Nat.zero_add]
      exact hcell _ _ (Psv_at xs i x hx j u hu)
theorem wpList_append_path {ops : Array Oper} {rest : List Oper} {op : Oper} {a : Act} {W : World} {Q : Exit → Act → World → Prop} (hgd : op.guard = none) (s p : Operand)
    (ho : op.op = .call { callee := .builtin .append, args := #[s, p], argTypes := #[23, 23] }) (base : Nat) (v : Value) (ys : List Pt) (hs : a.eval s = v) (hown : Hid (PsOwn W base v ys))
    (x : Pt) (b : Nat) (hp : a.eval p = .slice (some ⟨b, 0, none⟩) 1 1) (hc : Hid (CellsAt W b (rows [x]) 38)) (h1 : Hid (∀ u ∈ x.cs.toList, u.oneCell' = true)) (hl : ys.length ≤ 1000000) (hbase : base ≤ W.heap.size)
    (h : ∀ A' c' w', Hid (PsOwn w' base (.slice A' (ys.length + 1) c') (ys ++ [x])) → Hid (∀ B w0, Below B w0 W → B ≤ base → Below B w0 w') → Hid (W.grownBy w' v.ownBlock) → Hid ((Value.slice A' (ys.length + 1) c').ownBlock = v.ownBlock ∨ (Value.slice A' (ys.length + 1) c').ownBlock = some W.heap.size) → wpList Try.prog ops Q rest (a.put op.dst (.slice A' (ys.length + 1) c')) w') : wpList Try.prog ops Q (op :: rest) a W := by
  obtain ⟨i0, z0, hi, hz0, hz1, hz2, hz3⟩ := infoPt
  have hown := hown.out
  refine wpList_append_m hgd s p 23 23 ho base 38 i0 z0 29 i0.bytes Try.underlying23 hi hz0 hz1 rfl hz2 (by decide) v ys.length (Psv ys) hs hown _ 1 (Psv [x]) hp ?_ ?_ ?_ hbase ?_
  · rw [Psv_one]
    have e : (rows [x]).toList = x.cs.toList := by unfold rows; simp
    have := Src.cells (b := b) (c := 1) Try.underlying23 hc.out (size := 29) rfl (fun u hu => h1.out u (by rwa [e] at hu))
    rwa [e] at this
  · unfold maxLen
    omega
  · have h5 : (ys.length + 1) * i0.bytes ≤ 1000001 * 1000 := Nat.mul_le_mul (by omega) hz3
    omega
  · intro v' w' hv hg hat
    obtain ⟨A', c', rfl⟩ := hv.form
    refine h A' c' w' ?_ (fun B w0 hb hB => hown.below_grown hg hb (Nat.le_trans hB hbase) hB) hg hat
    show OwnM _ _ _ _ _ _ _
    rw [Psv_append, List.length_append]
    exact hv
/-- spots that are read -/
structure SpAt (w : World) (A : Option Addr) (c : Nat) (xs : List Spt) : Prop where
  rd : Rd w A 9 (xs.map Spt.cs)
  len : xs.length ≤ c
  cap : c ≤ maxLen
  ok : ∀ x ∈ xs, x.Ok
/-- the paths are the spots' -/
def OfAll (xs : List Spt) (ps : List Pt) : Prop := ps.length = min xs.length 10 ∧ ∀ (i : Nat) (p : Pt), ps[i]? = some p → ∃ x A B C c d e, xs[i]? = some x ∧ p = ofP x i A B C c d e
set_option maxRecDepth 100000 in
set_option maxHeartbeats 4000000 in
theorem list_any2 (A : Option Addr) (cap : Nat) (xs : List Spt) (w : World) (h : SpAt w A cap xs) :
    Calls Try.prog 8 #[.slice A xs.length cap] w fun e w' => ∃ v ps, e = .returned v ∧ PsOwn w' w.heap.size v ps ∧ OfAll xs ps ∧ (∀ p ∈ ps, PtOk w' p) ∧ (∀ p ∈ ps, ∀ g, PtBl p g → w.heap.size ≤ g ∧ some g ≠ v.ownBlock) ∧ Below w.heap.size w w' := by
  have HE := Lib.hid h
  have HOF := Lib.hid of_any
  have hlc := h.len
  have hlm : cap ≤ 9223372036854775807 := h.cap
  clear h
  go_enter Try.func8, Try.ntmps8
  go_wp2_with fail
  go_loopw [3, 4] (fun o i wr => ∃ (k : Nat) (ps : List Pt), k ≤ xs.length ∧ k ≤ 10 ∧ i = .int .i64 k ∧ ps.length = k ∧ Hid (PsOwn wr w.heap.size o ps) ∧ Hid (∀ (i : Nat) (p : Pt), ps[i]? = some p → ∃ x A B C c d e, xs[i]? = some x ∧ p = ofP x i A B C c d e) ∧ Hid (∀ p ∈ ps, PtOk wr p) ∧ Hid (∀ p ∈ ps, ∀ g, PtBl p g → w.heap.size ≤ g ∧ some g ≠ o.ownBlock) ∧ Hid (Below w.heap.size w wr)) (fun _ i _ => 11 - (intOf i).toNat)
  case atStart => exact ⟨0, [], by omega, by omega, rfl, rfl, PsOwn.nil _ _, fun i p hp => by simp at hp, fun p hp => by simp at hp, fun p hp => by simp at hp, Below.refl _ _⟩
  case round =>
    obtain ⟨k, ps, hk, hk10, rfl, hpl, HO, HA, HP, HL, HB⟩ := hrel
    obtain ⟨A2, c2, rfl⟩ := OwnM.form HO.out
    have HPL := Lib.hid hpl
    by_cases hlt : k < xs.length
    · by_cases hlt10 : k < 10
      · obtain ⟨x, hx⟩ : ∃ x, xs[k]? = some x := ⟨xs[k], List.getElem?_eq_getElem hlt⟩
        obtain ⟨b, off, rfl, hb, hc⟩ := Rd.at_ (i := k) (cs := x.cs) (HE.out.rd.below HB.out (Nat.le_refl _)) (by rw [List.getElem?_map, hx]; rfl)
        have d0 := hc 0 _ rfl
        have d1 := hc 1 _ rfl
        have d2 := hc 2 _ rfl
        have d3 := hc 3 _ rfl
        have d4 := hc 4 _ rfl
        have d5 := hc 5 _ rfl
        have d6 := hc 6 _ rfl
        have d7 := hc 7 _ rfl
        have d8 := hc 8 _ rfl
        have HOX := Lib.hid (HOF.out x k wr hlt10 (HE.out.ok x (List.mem_of_getElem? hx)))
        have HX := Lib.hid hx
        have hws := HB.out.size
        clear hx hc
        rw [Nat.add_zero] at d0
        clear hpl
        go_wp2_with fail
        refine HOX.out.mono ?_
        rintro e w1 ⟨A3, B3, C3, x3, y3, z3, rfl, hok, hbl, hb1⟩
        generalize hp3 : ofP x k A3 B3 C3 x3 y3 z3 = p at hok hbl
        have HP3 := Lib.hid hp3
        have HO1 : Hid (PsOwn w1 w.heap.size (.slice A2 ps.length c2) ps) := HO.out.below hb1 (Nat.le_refl _)
        have HB1 : Hid (Below w.heap.size w w1) := HB.out.trans (hb1.mono hws)
        have HP1 : Hid (∀ p ∈ ps, PtOk w1 p) := fun p hp => (HP.out p hp).below hb1 (Nat.le_refl _)
        have HPN := Lib.hid hok
        have HBL := Lib.hid hbl
        have HOL := Lib.hid (fun g (hg : (Value.slice A2 ps.length c2).ownBlock = some g) => (OwnM.lt HO.out g hg).2)
        have HONE := Lib.hid (PtOk.pones hok)
        have HPM : Hid (∃ x A B C c d e, xs[k]? = some x ∧ p = ofP x k A B C c d e) := ⟨x, A3, B3, C3, x3, y3, z3, HX.out, hp3.symm⟩
        have hs1 : w.heap.size ≤ w1.heap.size := HB1.out.size
        have HC1 : Hid (CellsAt (w1.alloc (.cells (rows [p]) 38)) w1.heap.size (rows [p]) 38) := CellsAt.new _ _ _
        have HBS : Hid (w.heap.size ≤ (w1.alloc (.cells (rows [p]) 38)).heap.size) := by
          show _ ≤ _
          simp
          omega
        have HLE : Hid (ps.length ≤ 1000000) := by
          show _ ≤ _
          rw [HPL.out]
          omega
        have HWN : Hid (Below w1.heap.size w1 (w1.alloc (.cells (rows [p]) 38))) := (Below.refl _ _).alloc (Nat.le_refl _) _
        clear hb1 hok hbl hp3 HO HB HP HOX d0 d1 d2 d3 d4 d5 d6 d7 d8 hb
        go_wp2_with (with_reducible show wpList _ _ _ (_ :: _) _ _; first | refine wpList_build_paths rfl rfl [p] ?hv rfl (by decide) (by decide) ?_ | refine wpList_append_path rfl (.tmp 15) (.tmp 22) rfl w.heap.size (.slice A2 ps.length c2) ps rfl (Lib.hid (PsOwn.alloc HO1.out _)) p w1.heap.size rfl HC1 HONE HLE.out HBS.out ?_)
        intro A4 c4 w4 HOWN HBG HGR HAT
        have HB4 : Hid (Below w.heap.size w w4) := HBG.out _ _ (HB1.out.alloc hs1 _) (Nat.le_refl _)
        have HQ : Hid (∀ q ∈ ps ++ [p], PtOk w1 q ∧ ∀ g, PtBl q g → w.heap.size ≤ g ∧ some g ≠ (Value.slice A2 ps.length c2).ownBlock) := by
          intro q hq
          rcases List.mem_append.1 hq with hq | hq
          · exact ⟨HP1.out q hq, HL.out q hq⟩
          · obtain rfl := List.mem_singleton.1 hq
            refine ⟨HPN.out, fun g hg => ?_⟩
            have h9 := HBL.out g hg
            exact ⟨by omega, fun e => by have := HOL.out g e.symm; omega⟩
        have HPZ : Hid (∀ q ∈ ps ++ [p], PtOk w4 q) := fun q hq => ((HQ.out q hq).1.below HWN.out (Nat.le_refl _)).grown HGR.out (fun g hg => ((HQ.out q hq).2 g hg).2)
        have HLZ : Hid (∀ q ∈ ps ++ [p], ∀ g, PtBl q g → w.heap.size ≤ g ∧ some g ≠ (Value.slice A4 (ps.length + 1) c4).ownBlock) := fun q hq g hg => by
          obtain ⟨h8, h9⟩ := HQ.out q hq
          refine ⟨(h9 g hg).1, fun e => ?_⟩
          rcases HAT.out with h | h
          · rw [h] at e; exact (h9 g hg).2 e
          · rw [h] at e
            have := h8.bl hg
            simp only [Option.some.injEq, World.size_alloc] at e
            omega
        have HAZ : Hid (∀ (i : Nat) (q : Pt), (ps ++ [p])[i]? = some q → ∃ x A B C c d e, xs[i]? = some x ∧ q = ofP x i A B C c d e) := by
          intro i q hq
          rcases Nat.lt_or_ge i ps.length with hi | hi
          · rw [List.getElem?_append_left hi] at hq
            exact HA.out i q hq
          · rw [List.getElem?_append_right hi] at hq
            have h0 : i - ps.length = 0 := by
              rcases Nat.eq_zero_or_pos (i - ps.length) with h | h
              · exact h
              · rw [List.getElem?_eq_none (by simp; omega)] at hq; cases hq
            rw [h0] at hq
            obtain rfl : p = q := Option.some.inj hq
            have := HPL.out
            obtain rfl : i = k := by omega
            exact HPM.out
        go_wp2_with fail
        exact ⟨⟨k + 1, ps ++ [p], by omega, by omega, by go_num, by simp [HPL.out], HOWN.out, HAZ.out, HPZ.out, HLZ.out, HB4.out⟩, by simp [intOf]; omega⟩
      · obtain rfl : k = 10 := by omega
        clear hpl
        go_wp2_with fail
        go_ret
        exact ⟨_, ps, rfl, HO.out, ⟨by rw [HPL.out]; omega, HA.out⟩, HP.out, HL.out, HB.out⟩
    · clear hpl
      go_wp2_with fail
      go_ret
      exact ⟨_, ps, rfl, HO.out, ⟨by rw [HPL.out]; omega, HA.out⟩, HP.out, HL.out, HB.out⟩
theorem list_any (A : Option Addr) (cap : Nat) (xs : List Spt) (w : World) (h : SpAt w A cap xs) :
    Calls Try.prog 8 #[.slice A xs.length cap] w fun e w' => ∃ v ps, e = .returned v ∧ PsOwn w' w.heap.size v ps ∧ OfAll xs ps ∧ (∀ p ∈ ps, PtOk w' p) ∧ Below w.heap.size w w' := by
  refine (list_any2 A cap xs w h).mono ?_
  rintro e w' ⟨v, ps, h1, h2, h3, h4, _, h5⟩
  exact ⟨v, ps, h1, h2, h3, h4, h5⟩
end Go.Proofs.Ytoamigfjpcniaaa
