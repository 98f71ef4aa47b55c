/-
  What is laid as a value is read as it was: plain law. Conditions: none.
-/
import Derived.Test.YtocbacpbckejdaaNlT
import Derived.Test.YtocbacpbckejdaaNlU
set_option linter.unusedVariables false
set_option linter.unusedSimpArgs false
namespace Go.Proofs.Ytocbacpbckejdaa
open Go.RowKit

theorem beVal_one (x : UInt8) : beVal [x] = x.toNat := by simp [beVal]
def headL (f : Int) : List UInt8 := [0, UInt8.ofNat (afiV f).toNat, UInt8.ofNat (safiV f).toNat]
theorem headS_bts (f : Int) : headS f = bts (headL f) := rfl
theorem bts_app (a b : List UInt8) : bts a ++ bts b = bts (a ++ b) := by
  apply ByteArray.ext
  apply Array.ext'
  simp [bts]
def aheadL (f : Int) (next : ByteArray) : List UInt8 := UInt8.ofNat (zeroV f + sizeV f).toNat :: (List.replicate (zeroV f).toNat 0 ++ (next.data.toList ++ [0]))
theorem aheadS_bts (f : Int) (next : ByteArray) : aheadS f next = bts (headL f ++ aheadL f next) := by
  have e : aheadS f next = bts (headL f) ++ bts [UInt8.ofNat (zeroV f + sizeV f).toNat] ++ bts (List.replicate (zeroV f).toNat 0) ++ bts next.data.toList ++ bts [0] := by
    rw [bts_self]
    rfl
  rw [e, bts_app, bts_app, bts_app, bts_app]
  congr 1
  unfold aheadL
  simp only [List.append_assoc, List.singleton_append, List.cons_append, List.nil_append]
theorem pairF_head {f : Int} (h1 : 1 ≤ f) (h2 : f ≤ 5) (r : List UInt8) : pairF (bts (headL f ++ r)) = f := by
  unfold pairF
  rw [bts_list, bts_extract, bts_list, bts_size]
  have e1 : (headL f ++ r).take 2 = [0, UInt8.ofNat (afiV f).toNat] := rfl
  have e2 : (((headL f ++ r).drop 2).take ((headL f ++ r).length - 2)).take 1 = [UInt8.ofNat (safiV f).toNat] := by
    rw [List.take_take, Nat.min_eq_left (by unfold headL; simp)]
    rfl
  rw [e1, e2]
  rcases fam_five h1 h2 with rfl | rfl | rfl | rfl | rfl <;> decide +kernel
theorem restF_head (f : Int) (r : List UInt8) : restF (bts (headL f ++ r)) = bts r := by
  unfold restF
  rw [bts_extract, bts_extract, bts_size, bts_size]
  congr 1
  rw [List.drop_take, List.drop_drop, List.take_take]
  show List.take _ r = r
  apply List.take_of_length_le
  simp only [headL, List.length_append, List.length_cons, List.length_nil, List.length_take, List.length_drop]
  omega

/-- PutGone's value is read as it was -/
theorem gone_back {f : Int} {add : Bool} {L : List Nl} {adds : List Int} (h1 : 1 ≤ f) (h2 : f ≤ 5) (ha : hasI adds f = add) (hL : ∀ n ∈ L, nlGood f add n ∧ n.Ok) : goneF (headS f ++ bts (encAll L add)) adds = .ok (f, L) := by
  rw [headS_bts, bts_app]
  unfold goneF
  rw [if_neg (by rw [bts_size, List.length_append]; unfold headL; simp), pairF_head h1 h2, if_neg (by omega), restF_head, ha, dec_enc f add L hL]

/-- Put's value is read as it was -/
theorem take_back {f : Int} {add : Bool} {L : List Nl} {adds : List Int} {next : ByteArray} (h1 : 1 ≤ f) (h2 : f ≤ 5) (hn : (next.size : Int) = sizeV f) (ha : hasI adds f = add) (hL : ∀ n ∈ L, nlGood f add n ∧ n.Ok) : takeF (aheadS f next ++ bts (encAll L add)) adds = .ok (f, next, L) := by
  obtain ⟨hz, hs, hz8, hs16, hx⟩ := row_nat h1 h2
  have hl : next.data.toList.length = next.size := by rw [Array.length_toList]; rfl
  rw [aheadS_bts, bts_app]
  have hd := dec_enc f add L hL
  generalize encAll L add = E at hd ⊢
  have e0 : headL f ++ aheadL f next ++ E = headL f ++ (aheadL f next ++ E) := List.append_assoc _ _ _
  rw [e0]
  unfold takeF
  rw [if_neg (by rw [bts_size, List.length_append]; unfold headL; simp), pairF_head h1 h2, if_neg (by omega), restF_head]
  obtain ⟨Z, hZ⟩ : ∃ Z, Z = (zeroV f).toNat := ⟨_, rfl⟩
  obtain ⟨M, hM⟩ : ∃ M, M = (sizeV f).toNat := ⟨_, rfl⟩
  rw [← hZ, ← hM] at hx ⊢
  rw [← hZ] at hz hz8
  rw [← hM] at hs hs16
  have hnM : next.size = M := by omega
  have en : tN (bts (aheadL f next ++ E)) 1 = Z + M := by
    unfold tN
    rw [if_pos (by rw [bts_size, List.length_append]; unfold aheadL; simp; omega), bts_list]
    have e : (aheadL f next ++ E).take 1 = [UInt8.ofNat (zeroV f + sizeV f).toNat] := rfl
    rw [e, beVal_one]
    omega
  have er : tR (bts (aheadL f next ++ E)) 1 = bts (List.replicate Z 0 ++ (next.data.toList ++ ([0] ++ E))) := by
    unfold tR
    rw [if_pos (by rw [bts_size, List.length_append]; unfold aheadL; simp; omega), bts_extract]
    congr 1
    have e : (aheadL f next ++ E).drop 1 = List.replicate Z 0 ++ (next.data.toList ++ ([0] ++ E)) := by
      unfold aheadL
      rw [← hZ]
      simp only [List.cons_append, List.drop_succ_cons, List.drop_zero, List.append_assoc]
    rw [e, List.take_of_length_le]
    rw [← e, List.length_drop, bts_size]
    exact Nat.le_refl _
  rw [en, er]
  have eh : (bts (List.replicate Z 0 ++ (next.data.toList ++ ([0] ++ E)))).extract 0 (Z + M) = bts (List.replicate Z 0 ++ next.data.toList) := by
    rw [bts_extract]
    congr 1
    rw [List.drop_zero, ← List.append_assoc, List.take_append_of_le_length (by simp [hl]; omega), List.take_of_length_le (by simp [hl]; omega)]
  have et : (bts (List.replicate Z 0 ++ (next.data.toList ++ ([0] ++ E)))).extract (Z + M) (bts (List.replicate Z 0 ++ (next.data.toList ++ ([0] ++ E)))).size = bts ([0] ++ E) := by
    rw [bts_extract, bts_size]
    congr 1
    rw [← List.append_assoc, List.drop_append_of_le_length (by simp [hl]; omega), List.drop_of_length_le (by simp [hl]; omega), List.nil_append, List.take_of_length_le]
    simp [hl]
    omega
  have eh2 : hopF f (Z + M) (bts (List.replicate Z 0 ++ next.data.toList)) = bts (List.replicate Z 0 ++ next.data.toList) := by
    unfold hopF
    rw [if_neg]
    rintro ⟨rfl, h⟩
    have h3 : (zeroV 2) = 0 := rfl
    have h4 : (sizeV 2) = 16 := rfl
    omega
  have hsz : (bts (List.replicate Z 0 ++ (next.data.toList ++ ([0] ++ E)))).size = Z + M + 1 + E.length := by
    rw [bts_size]
    simp [hl]
    omega
  have hsz2 : (bts (List.replicate Z 0 ++ next.data.toList)).size = Z + M := by
    rw [bts_size]
    simp [hl]
    omega
  rw [if_neg (by omega), et, eh, eh2, hsz2, if_neg (by rw [bts_size]; simp), if_neg (by omega)]
  have ez : (bts (List.replicate Z 0 ++ next.data.toList)).extract 0 Z = noughts Z := by
    rw [bts_extract, List.drop_zero, Nat.sub_zero, List.take_append_of_le_length (by simp), List.take_of_length_le (by simp)]
    unfold bts noughts
    rw [List.toArray_replicate]
  have ex : (bts (List.replicate Z 0 ++ next.data.toList)).extract Z (Z + M) = next := by
    rw [bts_extract, List.drop_append_of_le_length (by simp), List.drop_of_length_le (by simp), List.nil_append, List.take_of_length_le (by omega), bts_self]
  have ee : (bts ([0] ++ E)).extract 1 (bts ([0] ++ E)).size = bts E := by
    rw [bts_extract, bts_size]
    congr 1
    show List.take _ E = E
    apply List.take_of_length_le
    simp
  rw [if_neg (fun k => k ez), ex, ee, ha, hd]
end Go.Proofs.Ytocbacpbckejdaa
