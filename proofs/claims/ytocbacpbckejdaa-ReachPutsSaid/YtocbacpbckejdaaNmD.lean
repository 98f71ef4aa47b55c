/-
  Contracts of heraldref08.ahead, head, Put, PutGone, of the law's own and kept. Conditions: sizes.
-/
import Derived.Test.YtocbacpbckejdaaNmC
import Derived.Test.YtocbacpbckejdaaNlY
set_option linter.unusedVariables false
set_option linter.unusedSimpArgs false
namespace Go.Proofs.Ytocbacpbckejdaa
open Go.RowKit

def zS (f : Int) : ByteArray := if f = 4 ∨ f = 5 then ⟨#[0, 0, 0, 0, 0, 0, 0, 0]⟩ else ⟨#[]⟩
def sV (f : Int) : Int := if f = 2 ∨ f = 5 then 16 else 4
set_option maxRecDepth 100000 in
theorem rahead8_any (f : Int) (w : World) : Calls Try.prog 33 #[.int .i64 f] w fun e w' => e = .returned (.tuple #[.string (zS f), .int .i64 (sV f)]) ∧ w' = w := by
  by_cases h2 : f = 2
  · subst h2
    go_enter Try.func33, Try.ntmps33
    go_wp2
    go_ret2
    exact ⟨rfl, rfl⟩
  by_cases h4 : f = 4
  · subst h4
    go_enter Try.func33, Try.ntmps33
    go_wp2
    go_ret2
    exact ⟨rfl, rfl⟩
  by_cases h5 : f = 5
  · subst h5
    go_enter Try.func33, Try.ntmps33
    go_wp2
    go_ret2
    exact ⟨rfl, rfl⟩
  have hz : Hid (zS f = ⟨#[]⟩) := if_neg (by omega)
  have hs : Hid (sV f = 4) := if_neg (by omega)
  have e2 : (f == 2) = false := beq_eq_false_iff_ne.2 h2
  have e4 : (f == 4) = false := beq_eq_false_iff_ne.2 h4
  have e5 : (f == 5) = false := beq_eq_false_iff_ne.2 h5
  clear h2 h4 h5
  go_enter Try.func33, Try.ntmps33
  go_wp2
  go_ret2
  exact ⟨ret2 (val_str hz.out.symm) (val_int hs.out.symm), rfl⟩
theorem zS_eq {f : Int} (h1 : 1 ≤ f) (h2 : f ≤ 5) : zS f = ⟨(List.replicate (zeroV f).toNat 0).toArray⟩ ∧ sV f = sizeV f ∧ ((zS f).size : Int) = zeroV f := by
  rcases fam_five h1 h2 with rfl | rfl | rfl | rfl | rfl <;> exact ⟨rfl, rfl, rfl⟩
theorem head_put {f : Int} (h1 : 1 ≤ f) (h2 : f ≤ 5) : putS (putS ⟨#[]⟩ (afiV f).toNat 2 2) (safiV f).toNat 1 1 = headS f ∧ 0 ≤ afiV f ∧ afiV f ≤ 2 ∧ 0 ≤ safiV f ∧ safiV f ≤ 128 ∧ ((afiV f / 2 ^ (8 * 2)) == 0) = true ∧ ((safiV f / 2 ^ (8 * 1)) == 0) = true := by
  rcases fam_five h1 h2 with rfl | rfl | rfl | rfl | rfl <;> exact ⟨rfl, by decide, by decide, by decide, by decide, by decide, by decide⟩
set_option maxRecDepth 100000 in
theorem rhead8_any (f : Int) (w : World) (h1 : 1 ≤ f) (h2 : f ≤ 5) : Calls Try.prog 36 #[.int .i64 f] w fun e w' => e = .returned (.string (headS f)) ∧ Below w.heap.size w w' := by
  obtain ⟨he, a0, a1, s0, s1, t1, t2⟩ := head_put h1 h2
  have HA := Lib.hid (fun w => rafi_in f w h1 h2)
  have HP1 : Hid (∀ w, Calls Try.prog 35 #[.string ⟨#[]⟩, .int .u64 (afiV f), .int .i64 2] w fun e w' => e = .returned (.tuple #[.string (putS ⟨#[]⟩ (afiV f).toNat 2 2), .int .i64 0]) ∧ Below w.heap.size w w') :=
    fun w => rput_ok ⟨#[]⟩ (afiV f) 2 w (by decide) a0 (by omega) (by omega) (by omega) (fun _ => t1)
  have hps : (putS ⟨#[]⟩ (afiV f).toNat 2 2).size = 2 := by rw [putS_size]; rfl
  have HP2 : Hid (∀ w, Calls Try.prog 35 #[.string (putS ⟨#[]⟩ (afiV f).toNat 2 2), .int .u64 (safiV f), .int .i64 1] w fun e w' => e = .returned (.tuple #[.string (headS f), .int .i64 0]) ∧ Below w.heap.size w w') := fun w => by
    rw [← he]
    exact rput_ok _ (safiV f) 1 w (by omega) s0 (by omega) (by omega) (by omega) (fun _ => t2)
  clear he t1 t2 hps
  generalize putS ⟨#[]⟩ (afiV f).toNat 2 2 = P at HP1 HP2
  generalize headS f = H at HP2 ⊢
  generalize afiV f = a at HA HP1 a0 a1
  generalize safiV f = s at HA HP2 s0 s1
  go_enter Try.func36, Try.ntmps36
  go_wp2_with fail
  refine (HA.out _).mono ?_
  rintro e w1 ⟨rfl, hw⟩
  rw [hw]
  clear hw
  go_wp2_with fail
  refine (HP1.out _).mono ?_
  rintro e w2 ⟨rfl, hb⟩
  have HB2 := Lib.hid hb
  clear hb
  go_wp2_with fail
  refine (HP2.out _).mono ?_
  rintro e w3 ⟨rfl, hb⟩
  have HB3 := Lib.hid (HB2.out.trans (hb.mono HB2.out.size))
  clear hb HB2
  go_wp2_with fail
  go_ret
  exact ⟨rfl, HB3.out⟩
/-- the answer of the document's Encode, by cases -/
theorem encR_cases (L : List Nl) (f : Int) (add : Bool) (h1 : 1 ≤ f) (h2 : f ≤ 5) :
    (encR L f add = .tuple #[.string ⟨#[]⟩, .int .i64 2] ∧ (famSize f = 0 ∨ ¬ ∀ n ∈ L, nlGood f add n)) ∨
    (encR L f add = .tuple #[.string (bts (encAll L add)), .int .i64 0] ∧ ¬ (famSize f = 0 ∨ ¬ ∀ n ∈ L, nlGood f add n) ∧ (encAll L add).length ≤ 32 * L.length) := by
  by_cases h : famSize f = 0 ∨ ¬ ∀ n ∈ L, nlGood f add n
  · exact Or.inl ⟨encR_bad h, h⟩
  · have h3 : famSize f ≠ 0 := fun k => h (Or.inl k)
    have h4 : ∀ n ∈ L, nlGood f add n := fun n hn => by
      by_cases k : nlGood f add n
      · exact k
      · exact absurd (Or.inr (fun g => k (g n hn))) h
    exact Or.inr ⟨encR_ok h3 h4, h, encAll_le (fun n hn => (h4 n hn).1)⟩
theorem lay_bad {a : ByteArray} {L : List Nl} {f : Int} {add : Bool} (h : famSize f = 0 ∨ ¬ ∀ n ∈ L, nlGood f add n) : layR a L f add = .tuple #[.string ⟨#[]⟩, .int .i64 2] := if_pos h
theorem lay_long {a : ByteArray} {L : List Nl} {f : Int} {add : Bool} (h : ¬ (famSize f = 0 ∨ ¬ ∀ n ∈ L, nlGood f add n)) (hl : 4077 < a.size + (encAll L add).length) : layR a L f add = .tuple #[.string ⟨#[]⟩, .int .i64 3] := by unfold layR; rw [if_neg h, if_pos hl]
theorem lay_good {a : ByteArray} {L : List Nl} {f : Int} {add : Bool} (h : ¬ (famSize f = 0 ∨ ¬ ∀ n ∈ L, nlGood f add n)) (hl : ¬ 4077 < a.size + (encAll L add).length) : layR a L f add = .tuple #[.string (a ++ bts (encAll L add)), .int .i64 0] := by
  unfold layR
  rw [if_neg h, if_neg hl]
  rfl

set_option maxRecDepth 100000 in
set_option maxHeartbeats 4000000 in
theorem rputgone8_any (f : Int) (A : Option Addr) (len cap : Nat) (L : List Nl) (add : Bool) (w : World) (hr : NlRow w A len cap L) (hlen : len ≤ 10000) :
    Calls Try.prog 18 #[.int .i64 f, .slice A len cap, .bool add] w fun e w' => e = .returned (goneR f L add) ∧ Below w.heap.size w w' := by
  by_cases h : 1 ≤ f ∧ f ≤ 5
  · obtain ⟨h1, h2⟩ := h
    have HA := Lib.hid (fun w => rafi_in f w h1 h2)
    have HE := rencode_any A len cap L f add w hr hlen
    have HH := Lib.hid (fun w => rhead8_any f w h1 h2)
    have hg : goneR f L add = layR (headS f) L f add := if_pos ⟨h1, h2⟩
    have h3 := headS_size f
    have hll := hr.hlen
    clear hr
    rcases encR_cases L f add h1 h2 with ⟨e1, hb⟩ | ⟨e1, hb, hle⟩
    · have HR := Lib.hid (hg.trans (lay_bad hb))
      rw [e1] at HE
      have HE := Lib.hid HE
      clear e1 hb hg
      go_enter Try.func18, Try.ntmps18
      go_wp2_with fail
      refine (HA.out _).mono ?_
      rintro e w1 ⟨rfl, hw⟩
      rw [hw]
      clear hw
      go_wp2_with fail
      refine HE.out.mono ?_
      rintro e w2 ⟨rfl, hb⟩
      have HB2 := Lib.hid hb
      clear hb
      go_wp2_with fail
      go_ret2
      exact ⟨ret_val HR.out.symm, HB2.out⟩
    · rw [e1] at HE
      have HE := Lib.hid HE
      have hsz : (bts (encAll L add)).size = (encAll L add).length := bts_size _
      have hend : (4077 < 3 + (bts (encAll L add)).size ∧ Hid (goneR f L add = .tuple #[.string ⟨#[]⟩, .int .i64 3])) ∨ (¬ 4077 < 3 + (bts (encAll L add)).size ∧ Hid (goneR f L add = .tuple #[.string (headS f ++ bts (encAll L add)), .int .i64 0])) := by
        by_cases hl : 4077 < (headS f).size + (encAll L add).length
        · exact Or.inl ⟨by omega, hg.trans (lay_long hb hl)⟩
        · exact Or.inr ⟨by omega, hg.trans (lay_good hb hl)⟩
      have hE3 : (bts (encAll L add)).size ≤ 320000 := by omega
      clear e1 hb hg hle hsz
      generalize bts (encAll L add) = E at HE hend hE3
      generalize headS f = H at HH hend h3
      go_enter Try.func18, Try.ntmps18
      go_wp2_with fail
      refine (HA.out _).mono ?_
      rintro e w1 ⟨rfl, hw⟩
      rw [hw]
      clear hw
      go_wp2_with fail
      refine HE.out.mono ?_
      rintro e w2 ⟨rfl, hb⟩
      have HB2 := Lib.hid hb
      clear hb
      go_wp2_with fail
      refine (HH.out _).mono ?_
      rintro e w3 ⟨rfl, hb⟩
      have HB3 := Lib.hid (HB2.out.trans (hb.mono HB2.out.size))
      clear hb HB2
      rcases hend with ⟨hl, HR⟩ | ⟨hl, HR⟩
      · have hs : 4077 < (H.size : Int) + (E.size : Int) := by omega
        clear hl
        go_wp2_with fail
        go_ret2
        exact ⟨ret_val HR.out.symm, HB3.out⟩
      · have hs : ¬ 4077 < (H.size : Int) + (E.size : Int) := by omega
        clear hl
        go_wp2_with fail
        go_ret2
        exact ⟨ret_val HR.out.symm, HB3.out⟩
  · have HR : Hid (goneR f L add = .tuple #[.string ⟨#[]⟩, .int .i64 2]) := if_neg h
    have HA := Lib.hid (fun w => rafi_out f w (by omega))
    go_enter Try.func18, Try.ntmps18
    go_wp2_with fail
    refine (HA.out _).mono ?_
    rintro e w1 ⟨rfl, hw⟩
    rw [hw]
    clear hw
    go_wp2_with fail
    go_ret2
    exact ⟨ret_val HR.out.symm, Below.refl _ _⟩
theorem ahead_put {f : Int} {next : ByteArray} (h1 : 1 ≤ f) (h2 : f ≤ 5) : putS (headS f) (zeroV f + sizeV f).toNat 1 1 ++ zS f ++ next ++ ⟨#[0]⟩ = aheadS f next ∧ 0 ≤ zeroV f + sizeV f ∧ zeroV f + sizeV f ≤ 24 ∧ (((zeroV f + sizeV f) / 2 ^ (8 * 1)) == 0) = true := by
  have e : putS (headS f) (zeroV f + sizeV f).toNat 1 1 = headS f ++ ⟨#[UInt8.ofNat (zeroV f + sizeV f).toNat]⟩ := by
    unfold putS
    rw [beB1]
  rw [e, (zS_eq h1 h2).1]
  refine ⟨rfl, ?_⟩
  rcases fam_five h1 h2 with rfl | rfl | rfl | rfl | rfl <;> decide
set_option maxRecDepth 100000 in
set_option maxHeartbeats 8000000 in
theorem rput8_any (f : Int) (next : ByteArray) (A : Option Addr) (len cap : Nat) (L : List Nl) (add : Bool) (w : World) (hr : NlRow w A len cap L) (hlen : len ≤ 10000) (hnx : (next.size : Int) ≤ 9223372036854775807) :
    Calls Try.prog 16 #[.int .i64 f, .string next, .slice A len cap, .bool add] w fun e w' => e = .returned (putR f next L add) ∧ Below w.heap.size w w' := by
  have HAH := Lib.hid (fun w => rahead8_any f w)
  by_cases h : 1 ≤ f ∧ f ≤ 5
  · obtain ⟨h1, h2⟩ := h
    obtain ⟨z1, z2, z3⟩ := zS_eq h1 h2
    have HA := Lib.hid (fun w => rafi_in f w h1 h2)
    by_cases hn : (next.size : Int) = sizeV f
    · have HE := rencode_any A len cap L f add w hr hlen
      have HH := Lib.hid (fun w => rhead8_any f w h1 h2)
      have hg : putR f next L add = layR (aheadS f next) L f add := if_pos ⟨h1, h2, hn⟩
      have h3 := headS_size f
      have hll := hr.hlen
      obtain ⟨ha, v0, v1, vt⟩ := ahead_put (next := next) h1 h2
      have HP : Hid (∀ w, Calls Try.prog 35 #[.string (headS f), .int .u64 (zeroV f + sizeV f), .int .i64 1] w fun e w' => e = .returned (.tuple #[.string (putS (headS f) (zeroV f + sizeV f).toNat 1 1), .int .i64 0]) ∧ Below w.heap.size w w') :=
        fun w => rput_ok (headS f) _ 1 w (by omega) v0 (by omega) (by omega) (by omega) (fun _ => vt)
      have hps : (putS (headS f) (zeroV f + sizeV f).toNat 1 1).size = 4 := by rw [putS_size, h3]
      have n1 : (next.size == sizeV f) = true := by rw [beq_iff_eq]; exact hn
      have n2 : ((next.size : Int) != sizeV f) = false := by rw [bne, n1]; rfl
      have hz8 : (zS f).size ≤ 8 := by have := (row_nat h1 h2).2.2.1; have := (row_nat h1 h2).1; omega
      have hn16 : next.size ≤ 16 := by have := (row_nat h1 h2).2.2.2.1; have := (row_nat h1 h2).2.1; omega
      have hasz : (aheadS f next).size = 4 + (zS f).size + next.size + 1 := by
        rw [← ha, ByteArray.size_append, ByteArray.size_append, ByteArray.size_append, hps]
        rfl
      have HSUM : Hid (((zS f).size : Int) + sizeV f = zeroV f + sizeV f) := by
        show _ = _
        rw [z3]
      rw [z2] at HAH
      clear hr vt h3
      rcases encR_cases L f add h1 h2 with ⟨e1, hb⟩ | ⟨e1, hb, hle⟩
      · have HR := Lib.hid (hg.trans (lay_bad hb))
        rw [e1] at HE
        have HE := Lib.hid HE
        clear e1 hb hg ha hps hasz z1 z2 z3 hn hz8 v0 v1
        generalize sizeV f = sz at HAH n1 n2 HP HSUM
        generalize zS f = z at HAH HSUM
        go_enter Try.func16, Try.ntmps16
        go_wp2_with fail
        refine (HA.out _).mono ?_
        rintro e w1 ⟨rfl, hw⟩
        rw [hw]
        clear hw
        go_wp2_with fail
        refine (HAH.out _).mono ?_
        rintro e w1 ⟨rfl, hw⟩
        rw [hw]
        clear hw
        go_wp2_with fail
        refine HE.out.mono ?_
        rintro e w2 ⟨rfl, hb⟩
        have HB2 := Lib.hid hb
        clear hb
        go_wp2_with fail
        go_ret2
        exact ⟨ret_val HR.out.symm, HB2.out⟩
      · rw [e1] at HE
        have HE := Lib.hid HE
        have hsz : (bts (encAll L add)).size = (encAll L add).length := bts_size _
        have hend : (4077 < 4 + (zS f).size + next.size + 1 + (bts (encAll L add)).size ∧ Hid (putR f next L add = .tuple #[.string ⟨#[]⟩, .int .i64 3])) ∨ (¬ 4077 < 4 + (zS f).size + next.size + 1 + (bts (encAll L add)).size ∧ Hid (putR f next L add = .tuple #[.string (putS (headS f) (zeroV f + sizeV f).toNat 1 1 ++ zS f ++ next ++ ⟨#[0]⟩ ++ bts (encAll L add)), .int .i64 0])) := by
          rw [ha]
          by_cases hl : 4077 < (aheadS f next).size + (encAll L add).length
          · exact Or.inl ⟨by omega, hg.trans (lay_long hb hl)⟩
          · exact Or.inr ⟨by omega, hg.trans (lay_good hb hl)⟩
        have hE3 : (bts (encAll L add)).size ≤ 320000 := by omega
        clear e1 hb hg hle hsz ha hasz z1 z2 z3 hn
        generalize bts (encAll L add) = E at HE hend hE3
        generalize putS (headS f) (zeroV f + sizeV f).toNat 1 1 = H4 at HP hend hps
        generalize headS f = H at HH HP
        have v1' : zeroV f + sizeV f ≤ 24 := v1
        generalize hvv : zeroV f + sizeV f = vv at HSUM HP v0 v1 v1'
        have HVV := Lib.hid hvv
        clear hvv
        generalize sizeV f = sz at HAH n1 n2 HSUM HVV
        generalize zS f = z at HAH HSUM hz8 hend
        have hsum := HSUM.out
        go_enter Try.func16, Try.ntmps16
        go_wp2_with fail
        refine (HA.out _).mono ?_
        rintro e w1 ⟨rfl, hw⟩
        rw [hw]
        clear hw
        go_wp2_with fail
        refine (HAH.out _).mono ?_
        rintro e w1 ⟨rfl, hw⟩
        rw [hw]
        clear hw
        go_wp2_with fail
        refine HE.out.mono ?_
        rintro e w2 ⟨rfl, hb⟩
        have HB2 := Lib.hid hb
        clear hb
        go_wp2_with fail
        refine (HH.out _).mono ?_
        rintro e w3 ⟨rfl, hb⟩
        have HB3 := Lib.hid (HB2.out.trans (hb.mono HB2.out.size))
        clear hb HB2
        go_wp2_with fail
        refine (HP.out _).mono ?_
        rintro e w4 ⟨rfl, hb⟩
        have HB4 := Lib.hid (HB3.out.trans (hb.mono HB3.out.size))
        clear hb HB3 hsum
        rcases hend with ⟨hl, HR⟩ | ⟨hl, HR⟩
        · have hs : 4077 < (H4.size : Int) + (z.size : Int) + (next.size : Int) + 1 + (E.size : Int) := by omega
          clear hl
          go_wp2_with fail
          go_ret2
          exact ⟨ret_val HR.out.symm, HB4.out⟩
        · have hs : ¬ 4077 < (H4.size : Int) + (z.size : Int) + (next.size : Int) + 1 + (E.size : Int) := by omega
          clear hl
          go_wp2_with fail
          go_ret2
          exact ⟨ret_val HR.out.symm, HB4.out⟩
    · have HR : Hid (putR f next L add = .tuple #[.string ⟨#[]⟩, .int .i64 2]) := if_neg (fun h => hn h.2.2)
      have n1 : ((next.size : Int) == sizeV f) = false := beq_eq_false_iff_ne.2 hn
      have n2 : ((next.size : Int) != sizeV f) = true := by rw [bne, n1]; rfl
      rw [z2] at HAH
      clear z1 z2 z3 hn hr
      generalize sizeV f = sz at HAH n1 n2
      go_enter Try.func16, Try.ntmps16
      go_wp2_with fail
      refine (HA.out _).mono ?_
      rintro e w1 ⟨rfl, hw⟩
      rw [hw]
      clear hw
      go_wp2_with fail
      refine (HAH.out _).mono ?_
      rintro e w1 ⟨rfl, hw⟩
      rw [hw]
      clear hw
      go_wp2_with fail
      go_ret2
      exact ⟨ret_val HR.out.symm, Below.refl _ _⟩
  · have HR : Hid (putR f next L add = .tuple #[.string ⟨#[]⟩, .int .i64 2]) := if_neg (fun k => h ⟨k.1, k.2.1⟩)
    have HA := Lib.hid (fun w => rafi_out f w (by omega))
    go_enter Try.func16, Try.ntmps16
    go_wp2_with fail
    refine (HA.out _).mono ?_
    rintro e w1 ⟨rfl, hw⟩
    rw [hw]
    clear hw
    go_wp2_with fail
    refine (HAH.out _).mono ?_
    rintro e w1 ⟨rfl, hw⟩
    rw [hw]
    clear hw
    go_wp2_with fail
    go_ret2
    exact ⟨ret_val HR.out.symm, Below.refl _ _⟩
end Go.Proofs.Ytocbacpbckejdaa
