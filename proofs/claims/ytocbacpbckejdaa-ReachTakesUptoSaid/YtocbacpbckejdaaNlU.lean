/-
  Contracts of reach.Put and reach.Take joined. Conditions: sizes.
-/
import Derived.Test.YtocbacpbckejdaaNlR
import Derived.Test.YtocbacpbckejdaaNlS
set_option linter.unusedVariables false
set_option linter.unusedSimpArgs false
namespace Go.Proofs.Ytocbacpbckejdaa
open Go.RowKit

/-- the answer of Put -/
def putR (f : Int) (next : ByteArray) (L : List Nl) (add : Bool) : Value := if 1 ≤ f ∧ f ≤ 5 ∧ (next.size : Int) = sizeV f then layR (aheadS f next) L f add else .tuple #[.string ⟨#[]⟩, .int .i64 2]
theorem row_nat {f : Int} (h1 : 1 ≤ f) (h2 : f ≤ 5) : (((zeroV f).toNat : Nat) : Int) = zeroV f ∧ (((sizeV f).toNat : Nat) : Int) = sizeV f ∧ (zeroV f).toNat ≤ 8 ∧ (sizeV f).toNat ≤ 16 ∧ (((zeroV f).toNat : Nat) : Int) + (((sizeV f).toNat : Nat) : Int) = ((UInt8.ofNat (zeroV f + sizeV f).toNat).toNat : Nat) := by
  rcases fam_five h1 h2 with rfl | rfl | rfl | rfl | rfl <;> decide
theorem aheadS_size {f : Int} {next : ByteArray} (h1 : 1 ≤ f) (h2 : f ≤ 5) (hn : (next.size : Int) = sizeV f) : (aheadS f next).size ≤ 1000 := by
  have h := row_nat h1 h2
  unfold aheadS
  simp only [ByteArray.size_append, headS_size]
  have e1 : (ByteArray.mk #[UInt8.ofNat (zeroV f + sizeV f).toNat]).size = 1 := rfl
  have e2 : (ByteArray.mk (List.replicate (zeroV f).toNat (0 : UInt8)).toArray).size = (zeroV f).toNat := by show (List.replicate (zeroV f).toNat (0 : UInt8)).toArray.size = _; simp
  have e3 : (ByteArray.mk #[(0 : UInt8)]).size = 1 := rfl
  omega

set_option maxRecDepth 100000 in
set_option maxHeartbeats 4000000 in
theorem put_any (f : Int) (next : ByteArray) (A : Option Addr) (len cap : Nat) (L : List Nl) (add : Bool) (w : World) (hr : NlRow w A len cap L) (hlen : len ≤ 10000) (hnx : (next.size : Int) ≤ 9223372036854775807) :
    Calls Try.prog 15 #[.int .i64 f, .string next, .slice A len cap, .bool add] w fun e w' => e = .returned (putR f next L add) ∧ Below w.heap.size w w' := by
  by_cases h : 1 ≤ f ∧ f ≤ 5
  · obtain ⟨h1, h2⟩ := h
    obtain ⟨hz, hs, hz8, hs16, hx⟩ := row_nat h1 h2
    by_cases hn : (next.size : Int) = sizeV f
    · rw [show putR f next L add = layR (aheadS f next) L f add from if_pos ⟨h1, h2, hn⟩]
      refine put_gen f (afiV f) (safiV f) (zeroV f).toNat (sizeV f).toNat (UInt8.ofNat (zeroV f + sizeV f).toNat) (headS f) (aheadS f next) next A len cap L add w hz8 hs16 hx (by omega) (by rw [headS_size]; omega) (fun w => ?_) (fun w => ?_) (fun w hr => ?_) hr
      · rw [hz, hs]
        exact rowOf_in f w h1 h2
      · rw [hz, hs]
        exact head_any f w h1 h2
      · exact lay_any (aheadS f next) A len cap L f add w hr hlen (aheadS_size h1 h2 hn)
    · have hres : Hid (putR f next L add = .tuple #[.string ⟨#[]⟩, .int .i64 2]) := if_neg (fun h => hn h.2.2)
      have e1 : ((next.size : Int) == sizeV f) = false := beq_eq_false_iff_ne.2 hn
      have e2 : ((next.size : Int) != sizeV f) = true := by rw [bne, e1]; rfl
      have HROW := Lib.hid (fun w => rowOf_in f w h1 h2)
      clear hn hz hs hz8 hs16 hx hr
      generalize sizeV f = sz at e1 e2 HROW
      generalize zeroV f = zr at HROW
      go_enter Try.func15, Try.ntmps15
      go_wp2_with fail
      refine (HROW.out _).mono ?_
      rintro e w1 ⟨rfl, hb⟩
      have HB1 := Lib.hid (hb.alloc hb.size (.cells #[.int .u16 (afiV f), .int .u8 (safiV f), .int .i64 zr, .int .i64 sz] 55))
      clear hb
      go_wp2_with fail
      go_ret2
      exact ⟨ret_val hres.out.symm, HB1.out⟩
  · have hres : Hid (putR f next L add = .tuple #[.string ⟨#[]⟩, .int .i64 2]) := if_neg (fun k => h ⟨k.1, k.2.1⟩)
    go_enter Try.func15, Try.ntmps15
    go_wp2_with fail
    refine (rowOf_out f _ (by omega)).mono ?_
    rintro e w1 ⟨rfl, hb⟩
    have HB1 := Lib.hid (hb.alloc hb.size (.cells #[.int .u16 0, .int .u8 0, .int .i64 0, .int .i64 0] 55))
    clear hb
    go_wp2_with fail
    go_ret2
    exact ⟨ret_val hres.out.symm, HB1.out⟩

set_option maxRecDepth 100000 in
set_option maxHeartbeats 4000000 in
theorem take_any (s : ByteArray) (A : Option Addr) (cap : Nat) (adds : List Int) (w : World) (hi : IntAt w A cap adds) (hs : s.size ≤ 1100000) :
    Calls Try.prog 20 #[.string s, .slice A adds.length cap] w (TKPost w (takeF s adds)) := by
  by_cases h3 : s.size < 3
  · have HR : Hid (takeF s adds = .error 4) := if_pos h3
    have HB := Lib.hid (fun w => begin_short s w h3)
    clear h3 hi
    go_enter Try.func20, Try.ntmps20
    go_wp2_with fail
    refine (HB.out _).mono ?_
    rintro e w1 ⟨rfl, hb⟩
    have HB1 := Lib.hid hb
    clear hb HB
    go_wp2_with fail
    try simp only [Exit.inBlock, Exit.then]
    refine bodyPost_ret (results_tmp4 rfl _ _ _) rfl ?_
    exact TKPost.no HR.out rfl HB1.out
  have HBG := Lib.hid (fun w => begin_any s w (by omega) (by omega))
  by_cases hf : pairF s = 0
  · have HR : Hid (takeF s adds = .error 5) := (if_neg h3).trans (if_pos hf)
    rw [hf, if_pos rfl] at HBG
    clear h3 hf hi
    go_enter Try.func20, Try.ntmps20
    go_wp2_with fail
    refine (HBG.out _).mono ?_
    rintro e w1 ⟨rfl, hb⟩
    have HB1 := Lib.hid hb.bl
    clear hb HBG
    go_wp2_with fail
    try simp only [Exit.inBlock, Exit.then]
    refine bodyPost_ret (results_tmp4 rfl _ _ _) rfl ?_
    exact TKPost.no HR.out rfl HB1.out
  have hrs := restF_size s
  rw [if_neg hf] at HBG
  obtain ⟨f1, f2⟩ : 1 ≤ pairF s ∧ pairF s ≤ 5 := by
    rcases pairF_in s with h | h
    · exact absurd h hf
    · exact h
  obtain ⟨hz, hsz, hz8, hs16, _⟩ := row_nat f1 f2
  have l1 := tR_size (restF s) 1
  have l2 := tR_size (tR (restF s) 1) (tN (restF s) 1)
  have l3 := tR_size (tR (tR (restF s) 1) (tN (restF s) 1)) 1
  have hn := tN_lt (restF s) 1
  have hh0 : (tkS (tR (restF s) 1) (tN (restF s) 1)).size ≤ 1100000 := by
    unfold tkS
    split
    · rw [ByteArray.size_extract]; omega
    · show 0 ≤ _; omega
  refine take_gen s (pairF s) (zeroV (pairF s)).toNat (sizeV (pairF s)).toNat (tN (restF s) 1) (restF s) (tR (restF s) 1) (tR (tR (restF s) 1) (tN (restF s) 1)) (tR (tR (tR (restF s) 1) (tN (restF s) 1)) 1) (tkS (tR (restF s) 1) (tN (restF s) 1)) (hopF (pairF s) (tN (restF s) 1) (tkS (tR (restF s) 1) (tN (restF s) 1)))
    (decide (tN (restF s) 1 ≤ (tR (restF s) 1).size)) (decide (1 ≤ (tR (tR (restF s) 1) (tN (restF s) 1)).size)) A cap adds w (takeF s adds) hi f1 f2 hz8 hs16 (by omega) (by omega) hh0 HBG.out (fun b w h => ?_) (fun b w h => ?_) (fun b w h => ?_) (fun w => ⟨afiV (pairF s), safiV (pairF s), ?_⟩) (fun _ => rfl) ?_ ?_ ?_ ?_ ?_ ?_
  · refine (number_any b (restF s) 1 w h (by omega) (by omega) (by omega)).mono ?_
    rintro e w' ⟨h1, h2, h3⟩
    exact ⟨⟨_, h1⟩, h2, h3⟩
  · exact wtake_any b _ _ w h (by omega) rfl
  · refine (wtake_any b _ 1 w h (by omega) rfl).mono ?_
    rintro e w' ⟨h1, h2, h3⟩
    exact ⟨⟨_, h1⟩, h2, h3⟩
  · rw [hz, hsz]
    exact rowOf_in (pairF s) w f1 f2
  · intro hb h
    have hb := of_decide_eq_true hb
    rw [h.2] at hb ⊢
    unfold tkS
    rw [if_pos hb, ByteArray.size_extract]
    omega
  all_goals
    have ht : ∀ X Y : Except Int (Int × ByteArray × List Nl), (if s.size < 3 then X else if pairF s = 0 then X else Y) = Y := fun X Y => (if_neg h3).trans (if_neg hf)
    unfold takeF
    rw [if_neg h3, if_neg hf]
  · intro h
    rw [if_pos (by have := of_decide_eq_false h; omega)]
  · intro h
    have h := of_decide_eq_false h
    by_cases hq : (tR (restF s) 1).size < tN (restF s) 1
    · rw [if_pos hq]
    · rw [if_neg hq]
      have e : tR (tR (restF s) 1) (tN (restF s) 1) = (tR (restF s) 1).extract (tN (restF s) 1) (tR (restF s) 1).size := if_pos (by omega)
      rw [e] at h
      rw [if_pos (by omega)]
  · intro h hh
    have h := of_decide_eq_true h
    have e : tkS (tR (restF s) 1) (tN (restF s) 1) = (tR (restF s) 1).extract 0 (tN (restF s) 1) := if_pos h
    rw [e] at hh
    rw [if_neg (by omega), if_pos hh, ite_self]
  · intro h hh
    have h := of_decide_eq_true h
    have e : tkS (tR (restF s) 1) (tN (restF s) 1) = (tR (restF s) 1).extract 0 (tN (restF s) 1) := if_pos h
    rw [e] at hh
    rw [if_neg (by omega), if_pos hh, ite_self, ite_self]
  · intro h hh h5 h6
    have h := of_decide_eq_true h
    have hh := of_decide_eq_true hh
    have e : tkS (tR (restF s) 1) (tN (restF s) 1) = (tR (restF s) 1).extract 0 (tN (restF s) 1) := if_pos h
    have e2 : tR (tR (restF s) 1) (tN (restF s) 1) = (tR (restF s) 1).extract (tN (restF s) 1) (tR (restF s) 1).size := if_pos h
    have e3 : tR (tR (tR (restF s) 1) (tN (restF s) 1)) 1 = (tR (tR (restF s) 1) (tN (restF s) 1)).extract 1 (tR (tR (restF s) 1) (tN (restF s) 1)).size := if_pos hh
    rw [e] at h5 h6 ⊢
    rw [e3]
    rw [e2] at hh ⊢
    rw [if_neg (by omega), if_neg (by omega), if_neg (fun k => k h5), if_neg (fun k => k h6)]
end Go.Proofs.Ytocbacpbckejdaa
