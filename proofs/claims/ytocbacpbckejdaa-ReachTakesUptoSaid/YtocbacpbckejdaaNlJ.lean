/-
  What nlri.Decode answers, as a plain function. Conditions: none.
-/
import Derived.Test.YtocbacpbckejdaaNlI
set_option linter.unusedVariables false
set_option linter.unusedSimpArgs false
namespace Go.Proofs.Ytocbacpbckejdaa
open Go.RowKit

/-- a number is read, if it is wanted: its value, the rest, is something wrong? -/
def rdIf (on : Bool) (t : ByteArray) (k : Nat) (bad : Bool) : Nat × ByteArray × Bool := if on then (tN t k, tR t k, tW t k bad) else (0, t, bad)
def lBad (v : Nat) : Bool := decide (v % 2 = 0) && decide (v ≠ 8388608)
def labOf (on : Bool) (v : Nat) : Nat := if on && decide (v ≠ 8388608) then v / 16 else 0
def addrL (sz : Nat) (told : ByteArray) : List UInt8 := overL (List.replicate sz 0) told
def addrB (sz : Nat) (bits : Int) (told : ByteArray) : ByteArray := maskB ⟨(addrL sz told).toArray⟩ bits
def decTail (f : Int) (id label rd : Nat) (bits : Int) (t4 : ByteArray) (bad : Bool) : Option (Nl × ByteArray) :=
  if bad = true ∨ bits < 0 ∨ 8 * famSize f < bits then none
  else if t4.size < (bits.toNat + 7) / 8 then none
  else some (⟨f, rd, addrB (famSize f).toNat bits (t4.extract 0 ((bits.toNat + 7) / 8)), bits, id, label⟩, t4.extract ((bits.toNat + 7) / 8) t4.size)
def decStep (f : Int) (add : Bool) (t : ByteArray) : Option (Nl × ByteArray) :=
  let a := rdIf add t 4 false
  let b := rdIf true a.2.1 1 a.2.2
  let l := rdIf (labB f) b.2.1 3 b.2.2
  let d := rdIf (apB f) l.2.1 8 (l.2.2 || (labB f && lBad l.1))
  decTail f a.1 (labOf (labB f) l.1) d.1 ((b.1 : Int) - aheadV f) d.2.1 d.2.2
def decRun (f : Int) (add : Bool) : Nat → ByteArray → List Nl → Option (List Nl)
  | 0, _, _ => none
  | n + 1, t, acc => if t.size = 0 then some acc else match decStep f add t with
    | none => none
    | some (x, t') => decRun f add n t' (acc ++ [x])
def decAll (f : Int) (add : Bool) (s : ByteArray) : Option (List Nl) := decRun f add (s.size + 1) s []

theorem decStep_eq {f : Int} {add : Bool} {t t1 t2 t3 t4 : ByteArray} {z1 z2 z3 z4 : Nat} {b1 b2 b3 fl b4 : Bool} (h1 : rdIf add t 4 false = (z1, t1, b1)) (h2 : rdIf true t1 1 b1 = (z2, t2, b2)) (h3 : rdIf (labB f) t2 3 b2 = (z3, t3, b3))
    (hf : (b3 || (labB f && lBad z3)) = fl) (h4 : rdIf (apB f) t3 8 fl = (z4, t4, b4)) : decStep f add t = decTail f z1 (labOf (labB f) z3) z4 ((z2 : Int) - aheadV f) t4 b4 := by
  unfold decStep
  simp only [h1, h2, h3, hf, h4]
theorem rdIf_le (on : Bool) (t : ByteArray) (k : Nat) (bad : Bool) : (rdIf on t k bad).2.1.size ≤ t.size := by
  unfold rdIf
  cases on
  · exact Nat.le_refl _
  · exact tR_size t k
theorem rdIf_bad {on : Bool} {t : ByteArray} {k : Nat} {bad : Bool} (h : (rdIf on t k bad).2.2 = false) : bad = false := by
  unfold rdIf at h
  cases on
  · exact h
  · have h : (bad || _) = false := h
    exact (Bool.or_eq_false_iff.1 h).1
theorem rdIf_lt {t : ByteArray} {k : Nat} {bad : Bool} (h : (rdIf true t k bad).2.2 = false) (hk : 0 < k) : (rdIf true t k bad).2.1.size < t.size := by
  have h : (bad || decide (t.size < k)) = false := h
  have h2 := of_decide_eq_false (Bool.or_eq_false_iff.1 h).2
  show (tR t k).size < t.size
  rw [tR_size_lt (by omega)]
  omega
theorem decTail_lt {f : Int} {id label rd : Nat} {bits : Int} {t4 t5 : ByteArray} {bad : Bool} {x : Nl} (h : decTail f id label rd bits t4 bad = some (x, t5)) : bad = false ∧ t5.size ≤ t4.size := by
  unfold decTail at h
  by_cases h1 : bad = true ∨ bits < 0 ∨ 8 * famSize f < bits
  · rw [if_pos h1] at h; cases h
  rw [if_neg h1] at h
  by_cases h2 : t4.size < (bits.toNat + 7) / 8
  · rw [if_pos h2] at h; cases h
  rw [if_neg h2] at h
  simp only [Option.some.injEq, Prod.mk.injEq] at h
  refine ⟨by
    cases bad
    · rfl
    · exact absurd (Or.inl rfl) h1, ?_⟩
  rw [← h.2, ByteArray.size_extract]
  omega
theorem decStep_lt {f : Int} {add : Bool} {t t5 : ByteArray} {x : Nl} (h : decStep f add t = some (x, t5)) : t5.size < t.size := by
  unfold decStep at h
  obtain ⟨hb, hs⟩ := decTail_lt h
  have h3 := (Bool.or_eq_false_iff.1 (rdIf_bad hb)).1
  have h2 := rdIf_bad h3
  have e1 := rdIf_lt h2 (by decide)
  have e2 := rdIf_le add t 4 false
  have e3 := rdIf_le (labB f) (rdIf true (rdIf add t 4 false).2.1 1 (rdIf add t 4 false).2.2).2.1 3 (rdIf true (rdIf add t 4 false).2.1 1 (rdIf add t 4 false).2.2).2.2
  have e4 := rdIf_le (apB f) (rdIf (labB f) (rdIf true (rdIf add t 4 false).2.1 1 (rdIf add t 4 false).2.2).2.1 3 (rdIf true (rdIf add t 4 false).2.1 1 (rdIf add t 4 false).2.2).2.2).2.1 8 ((rdIf (labB f) (rdIf true (rdIf add t 4 false).2.1 1 (rdIf add t 4 false).2.2).2.1 3 (rdIf true (rdIf add t 4 false).2.1 1 (rdIf add t 4 false).2.2).2.2).2.2 || (labB f && lBad (rdIf (labB f) (rdIf true (rdIf add t 4 false).2.1 1 (rdIf add t 4 false).2.2).2.1 3 (rdIf true (rdIf add t 4 false).2.1 1 (rdIf add t 4 false).2.2).2.2).1))
  omega
theorem run_end {f : Int} {add : Bool} {n : Nat} {t s : ByteArray} {L : List Nl} (h : t.size < n ∧ decRun f add n t L = decAll f add s) (ht : t.size = 0) : decAll f add s = some L := by
  obtain ⟨m, rfl⟩ : ∃ m, n = m + 1 := ⟨n - 1, by omega⟩
  rw [← h.2]
  unfold decRun
  rw [if_pos ht]
theorem run_err {f : Int} {add : Bool} {n : Nat} {t s : ByteArray} {L : List Nl} (h : t.size < n ∧ decRun f add n t L = decAll f add s) (ht : 0 < t.size) (he : decStep f add t = none) : decAll f add s = none := by
  obtain ⟨m, rfl⟩ : ∃ m, n = m + 1 := ⟨n - 1, by omega⟩
  rw [← h.2]
  unfold decRun
  rw [if_neg (by omega), he]
theorem run_ok {f : Int} {add : Bool} {n : Nat} {t t5 s : ByteArray} {L : List Nl} {x : Nl} (h : t.size < n ∧ decRun f add n t L = decAll f add s) (ht : 0 < t.size) (he : decStep f add t = some (x, t5)) : t5.size < n - 1 ∧ decRun f add (n - 1) t5 (L ++ [x]) = decAll f add s := by
  obtain ⟨m, rfl⟩ : ∃ m, n = m + 1 := ⟨n - 1, by omega⟩
  have hl := decStep_lt he
  refine ⟨by omega, ?_⟩
  rw [← h.2, Nat.add_sub_cancel]
  conv => rhs; unfold decRun
  rw [if_neg (by omega), he]
theorem tail_bad {f : Int} {id label rd : Nat} {bits : Int} {t4 : ByteArray} : decTail f id label rd bits t4 true = none := if_pos (Or.inl rfl)
theorem tail_neg {f : Int} {id label rd : Nat} {bits : Int} {t4 : ByteArray} {b : Bool} (h : bits < 0) : decTail f id label rd bits t4 b = none := if_pos (Or.inr (Or.inl h))
theorem tail_big {f : Int} {id label rd : Nat} {bits : Int} {t4 : ByteArray} {b : Bool} (h : 8 * famSize f < bits) : decTail f id label rd bits t4 b = none := if_pos (Or.inr (Or.inr h))
theorem tail_short {f : Int} {id label rd : Nat} {bits : Int} {t4 : ByteArray} {b : Bool} (h : t4.size < (bits.toNat + 7) / 8) : decTail f id label rd bits t4 b = none := by
  unfold decTail
  rw [if_pos h]
  split <;> rfl
theorem tail_ok {f : Int} {id label rd : Nat} {bits : Int} {t4 : ByteArray} (h1 : ¬ bits < 0) (h2 : ¬ 8 * famSize f < bits) (h3 : (bits.toNat + 7) / 8 ≤ t4.size) :
    decTail f id label rd bits t4 false = some (⟨f, rd, addrB (famSize f).toNat bits (t4.extract 0 ((bits.toNat + 7) / 8)), bits, id, label⟩, t4.extract ((bits.toNat + 7) / 8) t4.size) := by
  unfold decTail
  rw [if_neg (fun h => by
    rcases h with h | h | h
    · cases h
    · exact h1 h
    · exact h2 h), if_neg (by omega)]

/-- the low bits of a byte are cleared -/
def clrL (l : List UInt8) (p j : Nat) : List UInt8 := l.set p (UInt8.ofNat ((l.getD p 0).toNat / 2 ^ j * 2 ^ j))
theorem clrL_zero (l : List UInt8) (p : Nat) : clrL l p 0 = l := by
  unfold clrL
  rw [Nat.pow_zero, Nat.div_one, Nat.mul_one, UInt8.ofNat_toNat]
  apply List.ext_getElem?
  intro i
  rw [List.getElem?_set]
  split
  · rename_i h
    subst h
    split
    · rename_i h
      rw [List.getD_eq_getElem?_getD, List.getElem?_eq_getElem h]
      rfl
    · rename_i h
      rw [List.getElem?_eq_none (by omega)]
  · rfl
theorem clrL_length (l : List UInt8) (p j : Nat) : (clrL l p j).length = l.length := by
  unfold clrL
  rw [List.length_set]
theorem clrL_at (l : List UInt8) (p j : Nat) (h : p < l.length) : (clrL l p j)[p]? = some (UInt8.ofNat ((l.getD p 0).toNat / 2 ^ j * 2 ^ j)) := by
  unfold clrL
  rw [List.getElem?_set_self h]
theorem clrL_succ (l : List UInt8) (p j : Nat) : clrL l p (j + 1) = (clrL l p j).set p (UInt8.ofNat ((l.getD p 0).toNat / 2 ^ (j + 1) * 2 ^ (j + 1))) := by
  unfold clrL
  rw [List.set_set]
theorem clr_step (x : UInt8) (j : Nat) (h : j < 8) : bits .andNot .u8 ((UInt8.ofNat (x.toNat / 2 ^ j * 2 ^ j)).toNat : Int) (2 ^ j % 256) = ((UInt8.ofNat (x.toNat / 2 ^ (j + 1) * 2 ^ (j + 1))).toNat : Int) := by
  have key : ∀ (y : Fin 256) (t : Fin 8), bits .andNot .u8 ((UInt8.ofNat (y.val / 2 ^ t.val * 2 ^ t.val)).toNat : Int) (2 ^ t.val % 256) = ((UInt8.ofNat (y.val / 2 ^ (t.val + 1) * 2 ^ (t.val + 1))).toNat : Int) := by decide +kernel
  exact key ⟨x.toNat, x.toNat_lt⟩ ⟨j, h⟩
theorem addrL_length {sz : Nat} {told : ByteArray} (h : told.size ≤ sz) : (addrL sz told).length = sz := by
  have hl : told.data.toList.length = told.size := by rw [Array.length_toList]; rfl
  unfold addrL overL
  rw [List.length_append, hl, List.length_drop, List.length_replicate]
  omega
theorem addrL_late {sz i : Nat} {told : ByteArray} (h : told.size ≤ i) (x : UInt8) (hx : (addrL sz told)[i]? = some x) : x = 0 := by
  have hl : told.data.toList.length = told.size := by rw [Array.length_toList]; rfl
  unfold addrL overL at hx
  rw [List.getElem?_append_right (by omega), List.getElem?_drop, List.getElem?_replicate] at hx
  split at hx
  · exact (Option.some.inj hx).symm
  · cases hx
theorem addr_clr {sz : Nat} {bits : Int} {told : ByteArray} {j : Nat} (h1 : bits ≤ 8 * told.size) (h2 : 8 * (told.size : Int) - bits = j) (h3 : j ≤ 7) (h4 : told.size ≤ sz) : ByteArray.mk (clrL (addrL sz told) (told.size - 1) j).toArray = addrB sz bits told := by
  unfold addrB maskB
  congr 2
  have hL := addrL_length h4
  have hd : (ByteArray.mk (addrL sz told).toArray).data.toList = addrL sz told := rfl
  have hs : (ByteArray.mk (addrL sz told).toArray).size = sz := by show (addrL sz told).toArray.size = _; simp [hL]
  rw [hd, hs]
  apply List.ext_getElem?
  intro i
  by_cases hi : i < sz
  · have hx : (addrL sz told)[i]? = some (addrL sz told)[i] := List.getElem?_eq_getElem (by omega)
    generalize (addrL sz told)[i] = x at hx
    have hm : (maskK (addrL sz told) bits sz)[i]? = some (mval x (bits - 8 * i)) := by
      simp only [maskK, List.getElem?_mapIdx, hx, Option.map_some, if_pos hi]
    rw [hm]
    by_cases hp : i = told.size - 1
    · subst hp
      rw [clrL_at _ _ _ (by omega), List.getD_eq_getElem?_getD, hx, Option.getD_some]
      congr 1
      unfold mval
      by_cases h0 : told.size = 0
      · have hx0 := addrL_late (by omega) x hx
        subst hx0
        rw [if_pos (by omega)]
        simp
      · rw [if_neg (by omega)]
        by_cases hj : j = 0
        · subst hj
          rw [if_neg (by omega), Nat.pow_zero, Nat.div_one, Nat.mul_one, UInt8.ofNat_toNat]
        · rw [if_pos (by omega), show (8 - (bits - 8 * ((told.size - 1 : Nat) : Int))).toNat = j by omega]
    · unfold clrL
      rw [List.getElem?_set_ne (by omega), hx]
      congr 1
      unfold mval
      by_cases hlt : i < told.size
      · rw [if_neg (by omega), if_neg (by omega)]
      · rw [if_pos (by omega)]
        exact addrL_late (by omega) x hx
  · rw [List.getElem?_eq_none (by rw [clrL_length]; omega), List.getElem?_eq_none (by rw [maskK_length]; omega)]

theorem and_par (v : Nat) (h : v < 16777216) : bits .and .u64 (v : Int) 1 = (v : Int) % 2 := by
  have h := u64_and_nat v 1 (by omega) (by decide)
  rw [Nat.and_one_is_mod] at h
  have h2 : bits .and .u64 (v : Int) 1 = ((v % 2 : Nat) : Int) := h
  rw [h2]
  omega
theorem lBad_yes {v : Nat} (h : v % 2 = 0) (h2 : v ≠ 8388608) : lBad v = true := by
  unfold lBad
  rw [decide_eq_true h, decide_eq_true h2]
  rfl
theorem lBad_no {v : Nat} (h : ¬ v % 2 = 0) : lBad v = false := by
  unfold lBad
  rw [decide_eq_false h]
  rfl
def lenV : Value → Nat
  | .slice _ n _ => n
  | _ => 0
/-- the answer of Decode -/
def DecPost (w : World) (s : ByteArray) (f : Int) (add : Bool) (e : Ending) (w' : World) : Prop := Below w.heap.size w w' ∧ match decAll f add s with
  | none => e = .returned (.tuple #[.slice none 0 0, .int .i64 4])
  | some L => ∃ v, e = .returned (.tuple #[v, .int .i64 0]) ∧ NlOwn w' w.heap.size v L
theorem DecPost.no {w w' : World} {s : ByteArray} {f : Int} {add : Bool} {e : Ending} (h : decAll f add s = none) (he : e = .returned (.tuple #[.slice none 0 0, .int .i64 4])) (hb : Below w.heap.size w w') : DecPost w s f add e w' := by
  refine ⟨hb, ?_⟩
  rw [h]
  exact he
theorem DecPost.yes {w w' : World} {s : ByteArray} {f : Int} {add : Bool} {e : Ending} {L : List Nl} {v : Value} (h : decAll f add s = some L) (he : e = .returned (.tuple #[v, .int .i64 0])) (ho : NlOwn w' w.heap.size v L) (hb : Below w.heap.size w w') : DecPost w s f add e w' := by
  refine ⟨hb, ?_⟩
  rw [h]
  exact ⟨v, he, ho⟩

section
variable {w0 w w' : World} {c9 r c10 : Nat} {t : ByteArray} {bad : Bool} {o : Value} {L : List Nl} {nb : Nat} {n : Nl}
theorem DecN.taken (h : DecN w0 w c9 r c10 t bad o L nb n) (t5 : ByteArray) : DecN w0 (w.setCell ⟨r, 1, none⟩ (.string t5)) c9 r c10 t5 bad o L nb n := by
  have hk : ∀ k, k ≠ r → (w.setCell ⟨r, 1, none⟩ (.string t5)).heap[k]? = w.heap[k]? := fun k hk => Below.heap_setCell w ⟨r, 1, none⟩ _ k hk
  have h1 := h.l1
  exact ⟨⟨⟨(hk _ (fun e => h.s.d.n1 e.symm)).trans h.s.d.h9, h.s.d.rd.set _, (hk _ (fun e => h.s.d.n2 e.symm)).trans h.s.d.h10, h.s.d.n1, h.s.d.n2, h.s.d.n3⟩,
    OwnM.keep h.s.own (fun g hg => hk g (fun e => OwnM.other h.s.own h.s.d.rd (by decide) (e ▸ hg))), h.s.bl.setCell (p := ⟨r, 1, none⟩) h.s.r0 _, h.s.r0, h.s.c0⟩,
    (hk _ (by omega)).trans h.box, h.l1, h.l2, h.l3, h.l4, h.l5⟩
theorem DecN.high (h : DecN w0 w c9 r c10 t bad o L nb n) {p : Addr} (hp : nb < p.block) (u : Value) : DecN w0 (w.setCell p u) c9 r c10 t bad o L nb n := by
  have hk : ∀ k, k ≠ p.block → (w.setCell p u).heap[k]? = w.heap[k]? := fun k hk => Below.heap_setCell w p u k hk
  have h1 := h.l1
  have h2 := h.l2
  have h3 := h.l3
  have h5 := h.l5
  exact ⟨⟨⟨(hk _ (by omega)).trans h.s.d.h9, (hk _ (by omega)).trans h.s.d.rd, (hk _ (by omega)).trans h.s.d.h10, h.s.d.n1, h.s.d.n2, h.s.d.n3⟩,
    OwnM.keep h.s.own (fun g hg => hk g (by have := h.l4 g hg; omega)), h.s.bl.setCell (by omega) _, h.s.r0, h.s.c0⟩,
    (hk _ (by omega)).trans h.box, h.l1, h.l2, h.l3, h.l4, h.l5⟩
theorem DecS.appended {v' : Value} {L' : List Nl} (h : DecS w0 w c9 r c10 t bad o L) (ho : NlOwn w' w0.heap.size v' L') (hg : w.grownBy w' o.ownBlock) : DecS w0 w' c9 r c10 t bad v' L' :=
  ⟨⟨(hg.block _ h.d.h9.lt (fun e => OwnM.other h.own h.d.h9 (by decide) e.symm)).trans h.d.h9, (hg.block _ h.d.rd.lt (fun e => OwnM.other h.own h.d.rd (by decide) e.symm)).trans h.d.rd, (hg.block _ h.d.h10.lt (fun e => OwnM.other h.own h.d.h10 (by decide) e.symm)).trans h.d.h10, h.d.n1, h.d.n2, h.d.n3⟩,
    ho, h.own.below_grown hg h.bl h.bl.size (Nat.le_refl _), h.r0, h.c0⟩
end
end Go.Proofs.Ytocbacpbckejdaa
