/-
  WireReads: for every bytes and steps the law answers true. Conditions: none of its own.
-/
import Derived.Test.YtgjebmnomgdckaaWireD
import Derived.Test.YtgjebmnomgdckaaOpen
set_option linter.unusedVariables false
set_option linter.unusedSimpArgs false
namespace Go.Proofs.Ytgjebmnomgdckaa
open Go.RowKit
open Go.ChangeShapes Go.WideShapes Go.ChangeAt
open Go.ChangeMaps (open_string shut_string)

theorem takes_same (b : Nat) (s : ByteArray) (n : Int) (hm : (s.size : Int) ≤ 9223372036854775807) :
    ∃ (r rest : ByteArray) (is : Bool), (∀ w : World, RdAt w b s → Calls Try.prog 13 #[.pointer (some ⟨b, 0, none⟩), .int .i64 n] w fun e w' => e = .returned (.tuple #[.string r, .bool is]) ∧ RdAt w' b rest ∧ w.grownBy w' (some b)) ∧
      (∀ w : World, Calls Try.prog 14 #[.string s, .int .i64 n] w fun e w' => e = .returned (.tuple #[.string r, .string rest, .bool is]) ∧ ∃ q, w' = w.drewN q) ∧ rest.size ≤ s.size := by
  by_cases hok : 0 ≤ n ∧ n ≤ s.size
  · refine ⟨_, _, _, fun w h => (take_ok b s n w h hok.1 hok.2 hm).mono fun e w' ⟨h1, h2⟩ => ⟨h1, ?_, ?_⟩, fun w => rtake_ok s n w hok.1 hok.2 hm, by simp⟩
    · rw [h2]; exact h.set _
    · rw [h2]; exact grown_setCell w _ _
  · have hno : n < 0 ∨ s.size < n := by omega
    exact ⟨_, _, _, fun w h => (take_no b s n w h hno hm).mono fun e w' ⟨h1, h2⟩ => ⟨h1, h2 ▸ h, h2 ▸ grown_refl w _⟩, fun w => (rtake_no s n w hno hm).mono fun e w' ⟨h1, h2⟩ => ⟨h1, 0, h2⟩, Nat.le_refl _⟩
theorem numbers_same (b : Nat) (s : ByteArray) (n : Int) (hm : (s.size : Int) ≤ 9223372036854775807) :
    ∃ (v : Int) (rest : ByteArray) (is : Bool), (∀ w : World, RdAt w b s → Calls Try.prog 15 #[.pointer (some ⟨b, 0, none⟩), .int .i64 n] w fun e w' => e = .returned (.tuple #[.int .u64 v, .bool is]) ∧ RdAt w' b rest ∧ w.grownBy w' (some b)) ∧
      (∀ w : World, Calls Try.prog 16 #[.string s, .int .i64 n] w fun e w' => e = .returned (.tuple #[.int .u64 v, .string rest, .bool is]) ∧ ∃ q, w' = w.drewN q) ∧ rest.size ≤ s.size := by
  by_cases hbad : n < 1 ∨ 8 < n
  · exact ⟨_, _, _, fun w h => (number_bad b n w hbad).mono fun e w' ⟨h1, h2⟩ => ⟨h1, h2 ▸ h, h2 ▸ grown_refl w _⟩, fun w => (rnumber_no s n w (by omega) hm).mono fun e w' ⟨h1, h2⟩ => ⟨h1, 0, h2⟩, Nat.le_refl _⟩
  · obtain ⟨k, rfl⟩ := Int.eq_ofNat_of_zero_le (show 0 ≤ n by omega)
    have k0 : 1 ≤ k := by omega
    have k1 : k ≤ 8 := by omega
    by_cases hok : k ≤ s.size
    · exact ⟨_, _, _, fun w h => number_ok b s k w h k0 k1 hok hm, fun w => rnumber_ok s k w k0 k1 hok hm, by simp⟩
    · exact ⟨_, _, _, fun w h => number_short b s k w h k0 k1 (by omega) hm, fun w => (rnumber_no s k w (by omega) hm).mono fun e w' ⟨h1, h2⟩ => ⟨h1, 0, h2⟩, Nat.le_refl _⟩

set_option maxRecDepth 100000 in
theorem wireReads_walk (s : ByteArray) (A : Option Addr) (len cap : Nat) (w : World) (hs : s.size ≤ maxLen) (hr : InRow w A len cap 2 (fun _ v => IsI64 v)) :
    Calls Try.prog 4 #[.string s, .slice A len cap] w fun e w' => e = .returned (.bool true) ∧ Below w.heap.size w w' := by
  unfold maxLen at hs
  have hlc := hr.1
  have hcm := hr.2.1
  unfold maxLen at hcm
  have HR := Lib.hid hr
  clear hr
  go_enter Try.func4, Try.ntmps4
  go_wp2_with fail
  refine (new_any _ _).mono ?_
  rintro e w1 ⟨rfl, rfl⟩
  have hrd : RdAt (w.alloc (.cells #[.bool true, .string s] 55)) w.heap.size s := heap_alloc_new w _
  have hb1 : Below w.heap.size w (w.alloc (.cells #[.bool true, .string s] 55)) := (Below.refl _ _).alloc (Nat.le_refl _) _
  generalize w.alloc (.cells #[.bool true, .string s] 55) = W1 at hrd hb1 ⊢
  have HRD := Lib.hid hrd
  have HB1 := Lib.hid hb1
  clear hrd hb1
  go_wp2_with fail
  go_loopw [6, 7] (fun l i wr => ∃ (k : Nat) (t : ByteArray), k ≤ len ∧ k ≤ 100 ∧ t.size ≤ 9223372036854775807 ∧ i = .int .i64 k ∧ l = .string t ∧ RdAt wr w.heap.size t ∧ Below w.heap.size w wr) (fun _ i _ => 101 - (intOf i).toNat)
  case atStart => exact ⟨0, s, by omega, by omega, by omega, rfl, rfl, HRD.out, HB1.out⟩
  case round =>
    obtain ⟨k, t, hk, hk1, ht, rfl, rfl, hrd, hbw⟩ := hrel
    have HRD := Lib.hid hrd
    have HBW := Lib.hid hbw
    clear hrd hbw
    by_cases hlt : k < len
    · by_cases h100 : k < 100
      · obtain ⟨b, off, rfl, hbl, hc⟩ := HR.out.at_ hlt
        obtain ⟨v0, hc0, n0, rfl, n01, n02⟩ := hc 0 (by omega)
        obtain ⟨v1, hc1, n1, rfl, n11, n12⟩ := hc 1 (by omega)
        have hd0 := ((HBW.out.cell (p := ⟨b, off + k * 2, none⟩) hbl).trans hc0)
        have hd1 := ((HBW.out.cell (p := ⟨b, off + k * 2 + 1, none⟩) hbl).trans hc1)
        clear hc hc0 hc1
        go_wp2_with fail
        all_goals
          have HRD2 : Hid (RdAt (wr.alloc (.cells #[.int .i64 n0, .int .i64 n1] 32)) w.heap.size t) := (Below.heap_alloc _ _ _ HRD.out.lt).trans HRD.out
          have HBW2 : Hid (Below w.heap.size w (wr.alloc (.cells #[.int .i64 n0, .int .i64 n1] 32))) := HBW.out.alloc HBW.out.size _
          have hxne : w.heap.size < wr.heap.size := HRD.out.lt
          have hx1 : (wr.alloc (.cells #[.int .i64 n0, .int .i64 n1] 32)).cell? ⟨wr.heap.size, 1, none⟩ = some (.int .i64 n1) := (cell_of_row _ wr.heap.size 1 _ _ _ (heap_alloc_new wr _)).trans rfl
          have HX := Lib.hid hx1
          clear hx1
          generalize wr.alloc (.cells #[.int .i64 n0, .int .i64 n1] 32) = wq at HRD2 HBW2 HX ⊢
          generalize wr.heap.size = xb at HX hxne ⊢
        · obtain ⟨x, rest, is, hp, hq, hsz⟩ := takes_same w.heap.size t n1 (by omega)
          have HP := Lib.hid hp
          have HQ := Lib.hid hq
          clear hp hq
          refine (HP.out _ HRD2.out).mono ?_
          rintro e w2 ⟨rfl, hrd2, hg2⟩
          have hbw3 := HBW2.out.grown hg2 HBW2.out.size (fun k hk => by cases hk; exact Nat.le_refl _)
          have hx2 := hg2.cell HX.out (by intro e; injection e with e; dsimp only at e; omega)
          have HRD2' := Lib.hid hrd2
          have HBW2' := Lib.hid hbw3
          clear hrd2 hg2 hbw3
          go_wp2_with fail
          refine (HQ.out _).mono ?_
          rintro e w3 ⟨rfl, q, rfl⟩
          have HRD3 : Hid (RdAt (w2.drewN q) w.heap.size rest) := HRD2'.out
          have HBW3 : Hid (Below w.heap.size w (w2.drewN q)) := below_drewN HBW2'.out q
          go_wp2_with fail
          refine (left_any w.heap.size _ _ HRD3.out).mono ?_
          rintro e w9 ⟨rfl, rfl⟩
          go_wp2_with fail
          exact ⟨⟨k + 1, rest, by omega, by omega, by omega, by go_num, rfl, HRD3.out, HBW3.out⟩, by simp [intOf]; omega⟩
        · obtain ⟨x, rest, is, hp, hq, hsz⟩ := numbers_same w.heap.size t n1 (by omega)
          have HP := Lib.hid hp
          have HQ := Lib.hid hq
          clear hp hq
          refine (HP.out _ HRD2.out).mono ?_
          rintro e w2 ⟨rfl, hrd2, hg2⟩
          have hbw3 := HBW2.out.grown hg2 HBW2.out.size (fun k hk => by cases hk; exact Nat.le_refl _)
          have hx2 := hg2.cell HX.out (by intro e; injection e with e; dsimp only at e; omega)
          have HRD2' := Lib.hid hrd2
          have HBW2' := Lib.hid hbw3
          clear hrd2 hg2 hbw3
          go_wp2_with fail
          refine (HQ.out _).mono ?_
          rintro e w3 ⟨rfl, q, rfl⟩
          have HRD3 : Hid (RdAt (w2.drewN q) w.heap.size rest) := HRD2'.out
          have HBW3 : Hid (Below w.heap.size w (w2.drewN q)) := below_drewN HBW2'.out q
          go_wp2_with fail
          refine (left_any w.heap.size _ _ HRD3.out).mono ?_
          rintro e w9 ⟨rfl, rfl⟩
          go_wp2_with fail
          exact ⟨⟨k + 1, rest, by omega, by omega, by omega, by go_num, rfl, HRD3.out, HBW3.out⟩, by simp [intOf]; omega⟩
        · refine (rest_any w.heap.size t _ HRD2.out (by omega)).mono ?_
          rintro e w3 ⟨rfl, rfl⟩
          have HRD3 : Hid (RdAt (wq.setCell ⟨w.heap.size, 1, none⟩ (.string ByteArray.empty)) w.heap.size ByteArray.empty) := HRD2.out.set _
          have HBW3 : Hid (Below w.heap.size w (wq.setCell ⟨w.heap.size, 1, none⟩ (.string ByteArray.empty))) := HBW2.out.setCell (Nat.le_refl _) _
          generalize wq.setCell ⟨w.heap.size, 1, none⟩ (.string ByteArray.empty) = w3 at HRD3 HBW3 ⊢
          go_wp2_with fail
          refine (left_any w.heap.size _ _ HRD3.out).mono ?_
          rintro e w9 ⟨rfl, rfl⟩
          go_wp2_with fail
          exact ⟨⟨k + 1, ByteArray.empty, by omega, by omega, Nat.zero_le _, by go_num, rfl, HRD3.out, HBW3.out⟩, by simp [intOf]; omega⟩
        · have HRD3 := HRD2
          have HBW3 := HBW2
          refine (left_any w.heap.size _ _ HRD3.out).mono ?_
          rintro e w9 ⟨rfl, rfl⟩
          go_wp2_with fail
          exact ⟨⟨k + 1, t, by omega, by omega, by omega, by go_num, rfl, HRD3.out, HBW3.out⟩, by simp [intOf]; omega⟩
      · go_wp2_with fail
        refine (works_any _).mono ?_
        rintro e w3 ⟨rfl, hb3⟩
        have HB3 := Lib.hid (HBW.out.trans (hb3.mono HBW.out.size))
        clear hb3
        go_wp2_with fail
        go_ret
        exact ⟨rfl, HB3.out⟩
    · go_wp2_with fail
      refine (works_any _).mono ?_
      rintro e w3 ⟨rfl, hb3⟩
      have HB3 := Lib.hid (HBW.out.trans (hb3.mono HBW.out.size))
      clear hb3
      go_wp2_with fail
      go_ret
      exact ⟨rfl, HB3.out⟩

set_option maxRecDepth 100000 in
theorem wireReads_lifted (os : Os) (started : os.Started) (H : Type) (enc : TypeId × Value → H) :
    ReturnsInHanded {} Try.checked os 4 .any (Rows.wireReadsSpec.pre6 enc Try.prog Try.f4 Rows.wireReadsRow.domain false) (Rows.wireReadsSpec.post enc Try.prog Try.f4 false true false false) := by
  refine returnsInHanded_of_change (C := Try.checked) own started (by kernel_rfl) Try.func4
    (ChangeSpec.witness6 (enc := enc) (C := Try.checked) false ⟨#[], #[.string .empty, .slice none 0 0], []⟩ 8 (by kernel_rfl) (by kernel_rfl) (by kernel_rfl) (by kernel_rfl)) ?_
  intro W base args ds gs before hval0 hW hcnd _
  have hval : ∀ (j : Nat) t v, Try.f4.params[j]? = some t → args[j]? = some v → Value.okWide Try.prog W .any base t v := hval0
  have hW' := hW
  obtain ⟨p, q, hA0, hV, rfl, hfz, hnd⟩ := hW
  have hA : DataW.TrodAll enc Try.prog W 0 (fun _ => true) true Try.f4.params.toList args.toList ds p := hA0
  rw [Try.params4] at hA hval
  obtain ⟨v0, vs0, d0, ds0, p0, q0, hargs, rfl, rfl, h0, r0⟩ := trodAll_cons hA
  obtain ⟨v1, vs1, d1, ds1, p1, q1, rfl, rfl, rfl, h1, r1⟩ := trodAll_cons r0
  obtain ⟨rfl, rfl, rfl⟩ := trodAll_nil r1
  obtain rfl : args = #[v0, v1] := by cases args; simp_all
  obtain ⟨rfl, rfl⟩ := trodVars_none hV
  obtain ⟨s, rfl, rfl, rfl, hs_s⟩ := open_string Try.underlying9 (hval 0 9 v0 rfl rfl) h0
  obtain ⟨A, len, cap, rfl, hrow⟩ := open_rows Try.underlying28 Try.underlying32 (by kernel_rfl) (by kernel_rfl) (by decide) (hval 1 28 v1 rfl rfl) h1
  have hrow' : InRow W A len cap 2 (fun _ v => IsI64 v) := InRow.mono (size := 2) hrow (fun j v hj hq => by
    rcases (show j = 0 ∨ j = 1 by omega) with rfl | rfl
    · obtain ⟨n, y, h⟩ := hq _ rfl
      exact isI64 Try.underlying3 h
    · obtain ⟨n, y, h⟩ := hq _ rfl
      exact isI64 Try.underlying3 h)
  refine (wireReads_walk s A len cap W hs_s hrow').mono fun e W' ⟨he, bel⟩ => ?_
  exact ⟨_, he, law_post laidOut (by kernel_rfl) rfl (by kernel_rfl) Try.underlying4 hW' rfl bel⟩

theorem wireReads_holds : Rows.WireReadsSaid :=
  OpenClaim.holds_of_wide 4 Try.f4 rfl rfl rfl rfl rfl rfl rfl ⟨rfl, rfl, rfl, rfl, rfl⟩ rfl rfl rfl rfl rfl (by kernel_rfl) Try.func4 (by kernel_rfl)
    (of_decide_eq_true (by kernel_rfl)) (by unfold Func.isWrapper; first | (rw [if_pos (by decide +kernel)]; kernel_rfl) | (rw [if_neg (by decide +kernel)]; exact ⟨rfl, rfl⟩))
    (fun os started H enc _ => wireReads_lifted os started H enc)

end Go.Proofs.Ytgjebmnomgdckaa
