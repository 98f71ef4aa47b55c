/-
  Labels: the reference's keys, and its list of who has which. Conditions: sizes.
-/
import Derived.Test.YtngehobekmijbaaLabI
set_option linter.unusedVariables false
set_option linter.unusedSimpArgs false
namespace Go.Proofs.Ytngehobekmijbaa
open Go.RowKit Go.MapKept

set_option maxHeartbeats 1000000 in
theorem rkmay_any (k : LK) (hk : k.Ok) (w : World) : Calls Try.prog 22 #[k.v] w fun e w' => e = .returned (.bool (kmay k)) ∧ Below w.heap.size w w' := by
  have h1 := hk.vrf
  have h2 := hk.addr
  have HCK := Lib.hid (fun w => rmay_any k.fam k.rd k.addr k.len w h2)
  have hv : k.v = .agg #[.string k.vrf, .int .i64 k.fam, .int .u64 k.rd, .string k.addr, .int .i64 k.len] := rfl
  rw [hv]
  clear hv
  have HW0 : Hid (Below w.heap.size w (w.alloc (.cells #[.string k.vrf, .int .i64 k.fam, .int .u64 k.rd, .string k.addr, .int .i64 k.len] 34))) := by
    show Below _ _ _
    go_grown
  generalize hp : decide (PrefOk k.fam k.rd k.addr k.len) = Y at HCK
  by_cases hz : 0 < k.vrf.size
  · have HN := Lib.hid (fun w => rname_any k.vrf hz h1 w)
    have e1 : (k.vrf.toList == []) = false := by
      rw [beq_eq_false_iff_ne, ByteArray.toList_eq]
      intro e
      have := congrArg List.length e
      rw [Array.length_toList] at this
      have h3 : k.vrf.data.size = k.vrf.size := rfl
      simp only [List.length_nil] at this
      omega
    have e1' : k.vrf.toList.isEmpty = false := by rw [List.isEmpty_eq_false_iff]; rw [beq_eq_false_iff_ne] at e1; exact e1
    have hr : Hid (kmay k = (nameB k.vrf hz && Y)) := by show _ = _; rw [← hp]; simp [kmay, hz]
    clear hp
    generalize nameB k.vrf hz = X at HN hr
    cases X
    · clear HCK
      go_enter Try.func22, Try.ntmps22
      go_wp2_with fail
      refine (HN.out _).mono ?_
      rintro e w1 ⟨rfl, rfl⟩
      go_wp2_with fail
      go_ret
      exact ⟨ret_bool hr.out.symm, HW0.out⟩
    · go_enter Try.func22, Try.ntmps22
      go_wp2_with fail
      refine (HN.out _).mono ?_
      rintro e w1 ⟨rfl, rfl⟩
      go_wp2_with fail
      refine (HCK.out _).mono ?_
      rintro e w2 ⟨rfl, hb⟩
      have HW2 := Lib.hid (HW0.out.trans (hb.mono HW0.out.size))
      clear hb
      go_wp2_with fail
      go_ret
      exact ⟨ret_bool hr.out.symm, HW2.out⟩
  · have e1 : k.vrf.toList = [] := by
      rw [ByteArray.toList_eq]
      apply List.eq_nil_of_length_eq_zero
      rw [Array.length_toList]
      have h3 : k.vrf.data.size = k.vrf.size := rfl
      omega
    have hr2 : Hid (kmay k = Y) := by show _ = _; rw [← hp]; simp [kmay, hz]
    clear hp
    go_enter Try.func22, Try.ntmps22
    go_wp2_with fail
    refine (HCK.out _).mono ?_
    rintro e w2 ⟨rfl, hb⟩
    have HW2 := Lib.hid (HW0.out.trans (hb.mono HW0.out.size))
    clear hb
    go_wp2_with fail
    go_ret
    exact ⟨ret_bool hr2.out.symm, HW2.out⟩

end Go.Proofs.Ytngehobekmijbaa
