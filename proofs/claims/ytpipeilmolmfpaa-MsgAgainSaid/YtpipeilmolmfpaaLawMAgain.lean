/-
  MsgAgain: for every bytes the law answers true. Conditions: none of its own.
-/
import Derived.Test.YtpipeilmolmfpaaLawMBack
import Derived.Deep.QuietTactic
import Derived.BigQuiet
set_option linter.unusedVariables false
set_option linter.unusedSimpArgs false
namespace Go.Proofs.Ytpipeilmolmfpaa
open Go.RowKit
open Go.ChangeShapes Go.WideShapes Go.ChangeAt
open Go.ChangeMaps (open_string shut_string)

theorem body_split (b : ByteArray) (h : 2 ≤ b.size) : (⟨#[b[0]!, b[1]!]⟩ ++ b.extract 2 b.size : ByteArray) = b := by
  obtain ⟨⟨l⟩⟩ := b
  match l, h with
  | x :: y :: r, _ =>
    apply ByteArray.ext
    apply Array.ext'
    have e : (⟨⟨x :: y :: r⟩⟩ : ByteArray).size = r.length + 2 := by show (x :: y :: r).length = _; simp
    rw [e]
    simp only [ByteArray.data_append, ByteArray.data_extract, Array.toList_append, Array.toList_extract, List.extract_eq_take_drop]
    show [x, y] ++ ((x :: y :: r).drop 2).take (r.length + 2 - 2) = x :: y :: r
    simp

set_option maxRecDepth 100000 in
theorem ref_of (b : ByteArray) (h : b.size = 4) (hf : famB b ≠ 0) : (refS (famB b)).extract 0 2 = b.extract 0 2 ∧ (refS (famB b))[3]! = b[3]! ∧ 1 ≤ famB b ∧ famB b ≤ 5 := by
  obtain ⟨⟨l⟩⟩ := b
  match l, h with
  | [x, y, z, u], _ =>
    have e : famB ⟨⟨[x, y, z, u]⟩⟩ = famOf ((x.toNat * 256 + y.toNat : Nat) : Int) ((u.toNat : Nat) : Int) := rfl
    rw [e] at hf ⊢
    have hx := x.toNat_lt
    have hy := y.toNat_lt
    have hu := u.toNat_lt
    unfold famOf at hf ⊢
    split
    · rename_i hc
      obtain ⟨rfl, rfl, rfl⟩ := (⟨UInt8.toNat_inj.1 (by show x.toNat = 0; omega), UInt8.toNat_inj.1 (by show y.toNat = 1; omega), UInt8.toNat_inj.1 (by show u.toNat = 1; omega)⟩ : x = 0 ∧ y = 1 ∧ u = 1)
      exact ⟨rfl, rfl, by omega, by omega⟩
    · split
      · rename_i hc
        obtain ⟨rfl, rfl, rfl⟩ := (⟨UInt8.toNat_inj.1 (by show x.toNat = 0; omega), UInt8.toNat_inj.1 (by show y.toNat = 2; omega), UInt8.toNat_inj.1 (by show u.toNat = 1; omega)⟩ : x = 0 ∧ y = 2 ∧ u = 1)
        exact ⟨rfl, rfl, by omega, by omega⟩
      · split
        · rename_i hc
          obtain ⟨rfl, rfl, rfl⟩ := (⟨UInt8.toNat_inj.1 (by show x.toNat = 0; omega), UInt8.toNat_inj.1 (by show y.toNat = 1; omega), UInt8.toNat_inj.1 (by show u.toNat = 4; omega)⟩ : x = 0 ∧ y = 1 ∧ u = 4)
          exact ⟨rfl, rfl, by omega, by omega⟩
        · split
          · rename_i hc
            obtain ⟨rfl, rfl, rfl⟩ := (⟨UInt8.toNat_inj.1 (by show x.toNat = 0; omega), UInt8.toNat_inj.1 (by show y.toNat = 1; omega), UInt8.toNat_inj.1 (by show u.toNat = 128; omega)⟩ : x = 0 ∧ y = 1 ∧ u = 128)
            exact ⟨rfl, rfl, by omega, by omega⟩
          · split
            · rename_i hc
              obtain ⟨rfl, rfl, rfl⟩ := (⟨UInt8.toNat_inj.1 (by show x.toNat = 0; omega), UInt8.toNat_inj.1 (by show y.toNat = 2; omega), UInt8.toNat_inj.1 (by show u.toNat = 128; omega)⟩ : x = 0 ∧ y = 2 ∧ u = 128)
              exact ⟨rfl, rfl, by omega, by omega⟩
            · rename_i h1 h2 h3 h4 h5
              rw [if_neg h1, if_neg h2, if_neg h3, if_neg h4, if_neg h5] at hf
              exact absurd rfl hf


set_option maxRecDepth 100000 in
set_option maxHeartbeats 1000000 in
theorem msgAgain_walk (b : ByteArray) (w : World) (hb0 : b.size ≤ 1152921504606846976) :
    Calls Try.prog 8 #[.string b] w fun e w' => e = .returned (.bool true) ∧ Below w.heap.size w w' := by
  by_cases hn : b.size ≤ 4077 ∧ 2 ≤ b.size ∧ b[0]! ≠ 0
  · have hR : ∀ w, Calls Try.prog 17 #[.string b] w (fun x w' => x = .returned (.tuple #[noteV b[0]! b[1]! (b.extract 2 b.size), .int .i64 0]) ∧ Below w.heap.size w w') := fun w =>
      (readnote_any _ (Or.inl rfl) b w hb0).mono fun x w' h => by
        rw [if_neg (by omega), if_neg (by rintro (h | h); · omega
                                          · exact hn.2.2 h)] at h
        exact h
    have hN : ∀ w, Calls Try.prog 15 #[noteV b[0]! b[1]! (b.extract 2 b.size)] w (fun x w' => x = .returned (.tuple #[.string b, .int .i64 0]) ∧ Below w.heap.size w w') := fun w =>
      (note_any _ (Or.inl rfl) b[0]! b[1]! (b.extract 2 b.size) w (by simp; omega)).mono fun x w' h => by
        rw [if_neg hn.2.2, if_neg (by simp; omega), body_split b hn.2.1] at h
        exact h
    have e0 : (((b[0]!.toNat : Nat) : Int) == 0) = false := by
      rw [beq_eq_false_iff_ne]
      intro h
      exact hn.2.2 (UInt8.toNat_inj.1 (by show b[0]!.toNat = 0; omega))
    unfold noteV at hR hN
    have HR := Lib.hid hR
    have HN := Lib.hid hN
    clear hR hN hn
    generalize b[0]!.toNat = cn at HR HN e0
    generalize b[1]!.toNat = sn at HR HN
    generalize b.extract 2 b.size = d at HR HN
    go_enter Try.func8, Try.ntmps8
    go_wp2_with fail
    refine (works_any _).mono ?_
    rintro e w1 ⟨rfl, hb⟩
    have HW1 := Lib.hid hb
    clear hb
    go_wp2_with fail
    refine (HR.out _).mono ?_
    rintro e w2 ⟨rfl, hb⟩
    have HW2 := Lib.hid (HW1.out.trans (hb.mono HW1.out.size))
    clear hb HW1
    have HW2a := Lib.hid (HW2.out.alloc HW2.out.size (.cells #[.int .u8 cn, .int .u8 sn, .string d] 30))
    have HX := Lib.hid (CellsAt.new w2 #[.int .u8 cn, .int .u8 sn, .string d] 30)
    obtain ⟨x0, x1, x2⟩ := HX.out.c3
    go_wp2_with fail
    refine (HN.out _).mono ?_
    rintro e w3 ⟨rfl, hb⟩
    have HW3 := Lib.hid (HW2a.out.trans (hb.mono HW2a.out.size))
    have HX3 := Lib.hid (HX.out.below hb HX.out.lt)
    clear hb HW2 HW2a HX x0 x1 x2
    obtain ⟨x0, x1, x2⟩ := HX3.out.c3
    go_wp2_with fail
    refine (readrefresh_any b _ hb0).mono ?_
    rintro e w4 ⟨rfl, hb⟩
    have HWX := Lib.hid (HW3.out.trans (hb.mono HW3.out.size))
    clear hb HW3 HX3 x0 x1 x2
    by_cases h4 : b.size = 4
    · by_cases hf : famB b = 0
      · have hr : readR b = .tuple #[.int .i64 0, .int .i64 5] := by unfold readR; rw [if_pos h4, if_pos hf]
        rw [hr]
        clear hr hf h4
        go_wp2_with fail
        go_ret
        exact ⟨rfl, HWX.out⟩
      · have hr : readR b = .tuple #[.int .i64 (famB b), .int .i64 0] := by unfold readR; rw [if_pos h4, if_neg hf]
        rw [hr]
        obtain ⟨q1, q2, q3, q4⟩ := ref_of b h4 hf
        have hrs : (refS (famB b)).size = 4 := rfl
        generalize famB b = F at q1 q2 q3 q4 hrs ⊢
        clear hr hf
        go_wp2_with fail
        refine (refresh_in F _ q3 q4).mono ?_
        rintro e w5 ⟨rfl, hb⟩
        have HZ := Lib.hid (HWX.out.trans (hb.mono HWX.out.size))
        clear hb HWX
        generalize refS F = r at q1 q2 hrs ⊢
        have i0 : (3 : Int) < (r.size : Int) := by omega
        have i1 : (3 : Int) < (b.size : Int) := by omega
        have i2 : (2 : Int) ≤ (r.size : Int) := by omega
        have i3 : (2 : Int) ≤ (b.size : Int) := by omega
        have j0 : 3 < r.size := by omega
        have j1 : 3 < b.size := by omega
        have e5 : ((r.extract 0 2).toList == (b.extract 0 2).toList) = true := by rw [q1]; simp
        rw [getElem!_pos r 3 j0, getElem!_pos b 3 j1] at q2
        have e6 : ((r[3].toNat : Int) == (b[3].toNat : Int)) = true := by rw [q2]; simp
        clear q1 q2 h4
        go_wp2_with fail
        go_quiet (fail)
        go_wp2_with fail
        go_ret
        exact ⟨rfl, below_drewN HZ.out nq⟩
    · have hr : readR b = .tuple #[.int .i64 0, .int .i64 4] := by unfold readR; rw [if_neg h4]
      rw [hr]
      clear hr
      go_wp2_with fail
      go_ret
      exact ⟨rfl, HWX.out⟩
  · have hR : ∃ er : Int, er ≠ 0 ∧ ∀ w, Calls Try.prog 17 #[.string b] w (fun x w' => x = .returned (.tuple #[noteV 0 0 ByteArray.empty, .int .i64 er]) ∧ Below w.heap.size w w') := by
      by_cases h0 : 4077 < b.size
      · exact ⟨3, by decide, fun w => (readnote_any _ (Or.inl rfl) b w hb0).mono fun x w' h => by rw [if_pos h0] at h; exact h⟩
      · have h1 : b.size < 2 ∨ b[0]! = 0 := by
          rcases Nat.lt_or_ge b.size 2 with h | h
          · exact Or.inl h
          · by_cases hz : b[0]! = 0
            · exact Or.inr hz
            · exact absurd ⟨by omega, h, hz⟩ hn
        exact ⟨4, by decide, fun w => (readnote_any _ (Or.inl rfl) b w hb0).mono fun x w' h => by rw [if_neg h0, if_pos h1] at h; exact h⟩
    obtain ⟨er, he, hR⟩ := hR
    rw [show noteV 0 0 ByteArray.empty = .agg #[.int .u8 0, .int .u8 0, .string ByteArray.empty] from rfl] at hR
    have e0 : (er == 0) = false := by rw [beq_eq_false_iff_ne]; exact he
    have e0' : (er != 0) = true := by rw [bne, e0]; rfl
    have HR := Lib.hid hR
    clear hR hn he
    go_enter Try.func8, Try.ntmps8
    go_wp2_with fail
    refine (works_any _).mono ?_
    rintro e w1 ⟨rfl, hb⟩
    have HW1 := Lib.hid hb
    clear hb
    go_wp2_with fail
    refine (HR.out _).mono ?_
    rintro e w2 ⟨rfl, hb⟩
    have HW2 := Lib.hid (HW1.out.trans (hb.mono HW1.out.size))
    clear hb HW1
    have HW3 := Lib.hid (HW2.out.alloc HW2.out.size (.cells #[.int .u8 0, .int .u8 0, .string ByteArray.empty] 30))
    go_wp2_with fail
    refine (readrefresh_any b _ hb0).mono ?_
    rintro e w4 ⟨rfl, hb⟩
    have HWX := Lib.hid (HW3.out.trans (hb.mono HW3.out.size))
    clear hb HW3 HW2
    by_cases h4 : b.size = 4
    · by_cases hf : famB b = 0
      · have hr : readR b = .tuple #[.int .i64 0, .int .i64 5] := by unfold readR; rw [if_pos h4, if_pos hf]
        rw [hr]
        clear hr hf h4
        go_wp2_with fail
        go_ret
        exact ⟨rfl, HWX.out⟩
      · have hr : readR b = .tuple #[.int .i64 (famB b), .int .i64 0] := by unfold readR; rw [if_pos h4, if_neg hf]
        rw [hr]
        obtain ⟨q1, q2, q3, q4⟩ := ref_of b h4 hf
        have hrs : (refS (famB b)).size = 4 := rfl
        generalize famB b = F at q1 q2 q3 q4 hrs ⊢
        clear hr hf
        go_wp2_with fail
        refine (refresh_in F _ q3 q4).mono ?_
        rintro e w5 ⟨rfl, hb⟩
        have HZ := Lib.hid (HWX.out.trans (hb.mono HWX.out.size))
        clear hb HWX
        generalize refS F = r at q1 q2 hrs ⊢
        have i0 : (3 : Int) < (r.size : Int) := by omega
        have i1 : (3 : Int) < (b.size : Int) := by omega
        have i2 : (2 : Int) ≤ (r.size : Int) := by omega
        have i3 : (2 : Int) ≤ (b.size : Int) := by omega
        have j0 : 3 < r.size := by omega
        have j1 : 3 < b.size := by omega
        have e5 : ((r.extract 0 2).toList == (b.extract 0 2).toList) = true := by rw [q1]; simp
        rw [getElem!_pos r 3 j0, getElem!_pos b 3 j1] at q2
        have e6 : ((r[3].toNat : Int) == (b[3].toNat : Int)) = true := by rw [q2]; simp
        clear q1 q2 h4
        go_wp2_with fail
        go_quiet (fail)
        go_wp2_with fail
        go_ret
        exact ⟨rfl, below_drewN HZ.out nq⟩
    · have hr : readR b = .tuple #[.int .i64 0, .int .i64 4] := by unfold readR; rw [if_neg h4]
      rw [hr]
      clear hr
      go_wp2_with fail
      go_ret
      exact ⟨rfl, HWX.out⟩

set_option maxRecDepth 100000 in
theorem msgAgain_lifted (os : Os) (started : os.Started) (H : Type) (enc : TypeId × Value → H) :
    ReturnsInHanded {} Try.checked os 8 .any (Rows.msgAgainSpec.pre6 enc Try.prog Try.f8 Rows.msgAgainRow.domain false) (Rows.msgAgainSpec.post enc Try.prog Try.f8 false true false false) := by
  refine returnsInHanded_of_change_sized (C := Try.checked) own started (by kernel_rfl) Try.func8
    (ChangeSpec.witness6 (enc := enc) (C := Try.checked) false ⟨#[], #[.string .empty], []⟩ 8 (by kernel_rfl) (by kernel_rfl) (by kernel_rfl) (by kernel_rfl)) ?_
  intro W base args ds gs before hval0 hW hcnd hsz _
  have hval : ∀ (j : Nat) t v, Try.f8.params[j]? = some t → args[j]? = some v → Value.okWide Try.prog W .any base t v := hval0
  have hW' := hW
  obtain ⟨p, q, hA0, hV, rfl, hfz, hnd⟩ := hW
  have hA : DataW.TrodAll enc Try.prog W 0 (fun _ => true) true Try.f8.params.toList args.toList ds p := hA0
  rw [Try.params8] at hA hval
  obtain ⟨v0, vs0, d0, ds0, p0, q0, hargs, rfl, rfl, h0, r0⟩ := trodAll_cons hA
  obtain ⟨rfl, rfl, rfl⟩ := trodAll_nil r0
  obtain rfl : args = #[v0] := by cases args; simp_all
  obtain ⟨rfl, rfl⟩ := trodVars_none hV
  obtain ⟨b, rfl, rfl, rfl, hs_b⟩ := open_string Try.underlying9 (hval 0 9 v0 rfl rfl) h0
  have rs_b : b.size ≤ 140737488351232 := by have h := sized_string hsz (j := 0) rfl rfl; simpa [reachBytes] using h
  refine (msgAgain_walk b W (by omega)).mono fun e W' ⟨he, bel⟩ => ?_
  exact ⟨_, he, law_post laidOut (by kernel_rfl) rfl (by kernel_rfl) Try.underlying4 hW' rfl bel⟩

theorem msgAgain_holds : Rows.MsgAgainSaid :=
  OpenClaim.holds_of_wide 8 Try.f8 rfl rfl rfl rfl rfl rfl rfl ⟨rfl, rfl, rfl, rfl, rfl⟩ rfl rfl rfl rfl rfl (by kernel_rfl) Try.func8 (by kernel_rfl)
    (of_decide_eq_true (by kernel_rfl)) (by unfold Func.isWrapper; first | (rw [if_pos (by decide +kernel)]; kernel_rfl) | (rw [if_neg (by decide +kernel)]; exact ⟨rfl, rfl⟩))
    (fun os started H enc _ => msgAgain_lifted os started H enc)

end Go.Proofs.Ytpipeilmolmfpaa
