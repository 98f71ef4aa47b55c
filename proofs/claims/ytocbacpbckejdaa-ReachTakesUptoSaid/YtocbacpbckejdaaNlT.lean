/-
  What is laid of told prefixes is read as it was: plain law. Conditions: none.
-/
import Derived.Test.YtocbacpbckejdaaNlJ
set_option linter.unusedVariables false
set_option linter.unusedSimpArgs false
namespace Go.Proofs.Ytocbacpbckejdaa
open Go.RowKit

def bts (l : List UInt8) : ByteArray := ⟨l.toArray⟩
theorem bts_size (l : List UInt8) : (bts l).size = l.length := by show l.toArray.size = _; simp
theorem bts_list (l : List UInt8) : (bts l).data.toList = l := rfl
theorem bts_self (b : ByteArray) : bts b.data.toList = b := by
  apply ByteArray.ext
  show b.data.toList.toArray = b.data
  simp
theorem bts_extract (l : List UInt8) (i j : Nat) : (bts l).extract i j = bts ((l.drop i).take (j - i)) := by
  apply ByteArray.ext
  rw [ByteArray.data_extract]
  show l.toArray.extract i j = ((l.drop i).take (j - i)).toArray
  rw [List.extract_toArray, List.extract_eq_take_drop]
theorem bts_inj {a b : List UInt8} (h : bts a = bts b) : a = b := by
  have h2 := congrArg (fun x : ByteArray => x.data.toList) h
  simpa [bts] using h2

theorem beVal_beB (v size : Nat) (hv : v < 2 ^ (8 * size)) : ∀ k, k ≤ size → beVal (beB v size k) = v / 2 ^ (8 * (size - k)) := by
  intro k
  induction k with
  | zero =>
    intro _
    simp only [Nat.sub_zero]
    rw [Nat.div_eq_of_lt hv]
    simp [beB, beVal]
  | succ k ih =>
    intro hk
    rw [beB_succ, beVal_snoc, ih (by omega)]
    have e1 : (UInt8.ofNat (v / 2 ^ (8 * (size - 1 - k)))).toNat = v / 2 ^ (8 * (size - (k + 1))) % 256 := by
      rw [show size - 1 - k = size - (k + 1) by omega]
      simp
    rw [e1, show 8 * (size - k) = 8 * (size - (k + 1)) + 8 by omega, Nat.pow_add, ← Nat.div_div_eq_div_mul]
    have h2 : (2 : Nat) ^ 8 = 256 := by decide
    rw [h2]
    omega
theorem beVal_whole (v size : Nat) (hv : v < 2 ^ (8 * size)) : beVal (beB v size size) = v := by
  rw [beVal_beB v size hv size (Nat.le_refl _)]
  simp

theorem tN_put (v k : Nat) (r : List UInt8) (hv : v < 2 ^ (8 * k)) : tN (bts (beB v k k ++ r)) k = v := by
  have hl := beB_length v k k
  unfold tN
  rw [if_pos (by rw [bts_size, List.length_append]; omega), bts_list, List.take_append_of_le_length (by omega), List.take_of_length_le (by omega), beVal_whole v k hv]
theorem tR_put (v k : Nat) (r : List UInt8) : tR (bts (beB v k k ++ r)) k = bts r := by
  have hl := beB_length v k k
  unfold tR
  rw [if_pos (by rw [bts_size, List.length_append]; omega), bts_extract, List.drop_append_of_le_length (by omega), List.drop_of_length_le (by omega), List.nil_append]
  congr 1
  apply List.take_of_length_le
  rw [bts_size, List.length_append]
  omega
theorem tW_put (v k : Nat) (r : List UInt8) (bad : Bool) : tW (bts (beB v k k ++ r)) k bad = bad := by
  have hl := beB_length v k k
  unfold tW
  rw [decide_eq_false (by rw [bts_size, List.length_append]; omega), Bool.or_false]
theorem rdIf_put (on : Bool) (v k : Nat) (r : List UInt8) (bad : Bool) (hv : v < 2 ^ (8 * k)) : rdIf on (bts ((if on then beB v k k else []) ++ r)) k bad = (if on then v else 0, bts r, bad) := by
  unfold rdIf
  cases on
  · simp
  · simp only [if_true]
    rw [tN_put v k r hv, tR_put, tW_put]

theorem addr_back (n : Nl) (h : nlMay n) (r : List UInt8) : addrB (famSize n.fam).toNat n.len ((bts (n.addr.data.toList.take ((n.len.toNat + 7) / 8) ++ r)).extract 0 ((n.len.toNat + 7) / 8)) = n.addr := by
  obtain ⟨⟨h1, h2, h3, h4, _, h6⟩, _⟩ := h
  have e : n.addr.data.toList.length = n.addr.size := by rw [Array.length_toList]; rfl
  have hm : (n.len.toNat + 7) / 8 ≤ n.addr.size := by omega
  have hsz : (famSize n.fam).toNat = n.addr.size := by omega
  rw [bts_extract, List.drop_zero, Nat.sub_zero, List.take_append_of_le_length (by rw [List.length_take]; omega), List.take_take, Nat.min_self, hsz]
  have hlate := (maskB_bits n.addr n.len).1 h6
  conv => rhs; rw [← h6]
  unfold addrB maskB
  congr 2
  have hL : (addrL n.addr.size (bts (n.addr.data.toList.take ((n.len.toNat + 7) / 8)))).length = n.addr.size := addrL_length (by rw [bts_size, List.length_take]; omega)
  have hs : (ByteArray.mk (addrL n.addr.size (bts (n.addr.data.toList.take ((n.len.toNat + 7) / 8)))).toArray).size = n.addr.size := by
    show (addrL n.addr.size (bts (n.addr.data.toList.take ((n.len.toNat + 7) / 8)))).toArray.size = _
    rw [List.size_toArray, hL]
  rw [hs]
  apply List.ext_getElem?
  intro i
  simp only [maskK, List.getElem?_mapIdx]
  by_cases hi : i < n.addr.size
  · by_cases hp : i < (n.len.toNat + 7) / 8
    · have : (addrL n.addr.size (bts (n.addr.data.toList.take ((n.len.toNat + 7) / 8))))[i]? = n.addr.data.toList[i]? := by
        unfold addrL overL
        rw [bts_list, List.getElem?_append_left (by rw [List.length_take]; omega), List.getElem?_take, if_pos hp]
      rw [this]
    · have hx : ∀ (x : UInt8), mval x (n.len - 8 * (i : Int)) = 0 := fun x => by unfold mval; rw [if_pos (by omega)]
      have l1 : (addrL n.addr.size (bts (n.addr.data.toList.take ((n.len.toNat + 7) / 8))))[i]? = some (addrL n.addr.size (bts (n.addr.data.toList.take ((n.len.toNat + 7) / 8))))[i] := List.getElem?_eq_getElem (by omega)
      have l2 : n.addr.data.toList[i]? = some n.addr.data.toList[i] := List.getElem?_eq_getElem (by omega)
      rw [l1, l2]
      simp only [Option.map_some, if_pos hi, hx]
  · rw [List.getElem?_eq_none (by omega), List.getElem?_eq_none (by omega)]

theorem lBad_odd (v : Nat) : lBad (v * 16 + 1) = false := lBad_no (by omega)
theorem labOf_odd (on : Bool) (v : Nat) : labOf on (if on then v * 16 + 1 else 0) = if on then v else 0 := by
  unfold labOf
  cases on
  · rfl
  · simp only [if_true, Bool.true_and]
    rw [decide_eq_true (by omega)]
    simp only [if_true]
    omega
theorem Nl.ext' {a b : Nl} (h1 : a.fam = b.fam) (h2 : a.rd = b.rd) (h3 : a.addr = b.addr) (h4 : a.len = b.len) (h5 : a.id = b.id) (h6 : a.label = b.label) : a = b := by
  cases a; cases b; simp_all

theorem dec_enc_one (f : Int) (add : Bool) (n : Nl) (hg : nlGood f add n) (hok : n.Ok) (r : List UInt8) : decStep f add (bts (encOne n add ++ r)) = some (n, bts r) := by
  obtain ⟨hm, rfl, hid⟩ := hg
  have hb := nlMay_bd hm
  have hah := aheadV_in n.fam
  have hback := addr_back n hm r
  obtain ⟨⟨p1, p2, p3, p4, p5, p6⟩, p7, p8⟩ := hm
  have hok1 := hok.id
  have hok2 := hok.rd
  have hok3 := hok.label
  have e : n.addr.data.toList.length = n.addr.size := by rw [Array.length_toList]; rfl
  have hin := famSize_in n.fam
  have hl16 : (n.label * 16 + 1).toNat = n.label.toNat * 16 + 1 := by omega
  unfold encOne
  simp only [List.append_assoc]
  have r1 := rdIf_put add n.id.toNat 4 (beB (n.len + aheadV n.fam).toNat 1 1 ++ ((if labB n.fam then beB (n.label * 16 + 1).toNat 3 3 else []) ++ ((if apB n.fam then beB n.rd.toNat 8 8 else []) ++ (n.addr.data.toList.take ((n.len.toNat + 7) / 8) ++ r)))) false (by omega)
  have r2 := rdIf_put true (n.len + aheadV n.fam).toNat 1 ((if labB n.fam then beB (n.label * 16 + 1).toNat 3 3 else []) ++ ((if apB n.fam then beB n.rd.toNat 8 8 else []) ++ (n.addr.data.toList.take ((n.len.toNat + 7) / 8) ++ r))) false (by omega)
  have r3 := rdIf_put (labB n.fam) (n.label * 16 + 1).toNat 3 ((if apB n.fam then beB n.rd.toNat 8 8 else []) ++ (n.addr.data.toList.take ((n.len.toNat + 7) / 8) ++ r)) false (by omega)
  have r4 := rdIf_put (apB n.fam) n.rd.toNat 8 (n.addr.data.toList.take ((n.len.toNat + 7) / 8) ++ r) false (by omega)
  simp only [if_true] at r2
  have hfl : (false || (labB n.fam && lBad (if labB n.fam then (n.label * 16 + 1).toNat else 0))) = false := by
    cases labB n.fam
    · rfl
    · simp only [if_true, Bool.true_and, Bool.false_or, hl16]
      exact lBad_odd _
  rw [decStep_eq r1 r2 r3 hfl r4]
  have hbits : (((n.len + aheadV n.fam).toNat : Nat) : Int) - aheadV n.fam = n.len := by omega
  rw [hbits, tail_ok (by omega) (by omega) (by rw [bts_size, List.length_append, List.length_take]; omega)]
  congr 1
  refine Prod.ext ?_ ?_
  · refine Nl.ext' rfl ?_ hback rfl ?_ ?_
    · show (((if apB n.fam then n.rd.toNat else 0 : Nat)) : Int) = n.rd
      unfold apB
      by_cases h4 : 4 ≤ n.fam
      · rw [decide_eq_true h4]
        simp only [if_true]
        omega
      · rw [decide_eq_false h4]
        rcases p5 with h | h
        · simp [h]
        · omega
    · show (((if add then n.id.toNat else 0 : Nat)) : Int) = n.id
      rcases hid with h | h
      · rw [h]; cases add <;> rfl
      · rw [h]
        simp only [if_true]
        omega
    · show ((labOf (labB n.fam) (if labB n.fam then (n.label * 16 + 1).toNat else 0) : Nat) : Int) = n.label
      rw [hl16, labOf_odd]
      unfold labB
      by_cases h3 : 3 ≤ n.fam
      · rw [decide_eq_true h3]
        simp only [if_true]
        omega
      · rw [decide_eq_false h3]
        rcases p8 with h | h
        · simp [h]
        · omega
  · show (bts _).extract _ _ = _
    rw [bts_extract, List.drop_append_of_le_length (by rw [List.length_take]; omega), List.drop_of_length_le (by rw [List.length_take]; omega), List.nil_append]
    congr 1
    apply List.take_of_length_le
    rw [bts_size, List.length_append, List.length_take]
    omega

theorem encOne_pos (n : Nl) (add : Bool) : 0 < (encOne n add).length := by
  unfold encOne
  simp only [List.length_append, beB_length]
  omega
theorem dec_enc_run (f : Int) (add : Bool) : ∀ (L : List Nl) (acc : List Nl) (k : Nat), (∀ n ∈ L, nlGood f add n ∧ n.Ok) → (encAll L add).length < k → decRun f add k (bts (encAll L add)) acc = some (acc ++ L)
  | [], acc, k, _, hk => by
    obtain ⟨m, rfl⟩ : ∃ m, k = m + 1 := ⟨k - 1, by omega⟩
    unfold decRun
    have e : (bts (encAll [] add)).size = 0 := rfl
    rw [if_pos e, List.append_nil]
  | n :: L, acc, k, h, hk => by
    obtain ⟨m, rfl⟩ : ∃ m, k = m + 1 := ⟨k - 1, by omega⟩
    have e : encAll (n :: L) add = encOne n add ++ encAll L add := by unfold encAll; rw [List.flatMap_cons]
    have hp := encOne_pos n add
    rw [e, List.length_append] at hk
    unfold decRun
    rw [e, if_neg (by rw [bts_size, List.length_append]; omega), dec_enc_one f add n (h n (by simp)).1 (h n (by simp)).2]
    show decRun f add m (bts (encAll L add)) (acc ++ [n]) = _
    rw [dec_enc_run f add L (acc ++ [n]) m (fun x hx => h x (by simp [hx])) (by omega), List.append_assoc, List.singleton_append]
/-- what is laid is read as it was -/
theorem dec_enc (f : Int) (add : Bool) (L : List Nl) (h : ∀ n ∈ L, nlGood f add n ∧ n.Ok) : decAll f add (bts (encAll L add)) = some L := by
  unfold decAll
  rw [dec_enc_run f add L [] _ h (by rw [bts_size]; omega), List.nil_append]
end Go.Proofs.Ytocbacpbckejdaa
