/-
  LabelsLeast: the law answers true. Conditions: none.
-/
import Derived.Test.YtngehobekmijbaaLabF
set_option linter.unusedVariables false
set_option linter.unusedSimpArgs false
namespace Go.Proofs.Ytngehobekmijbaa
open Go.RowKit Go.MapKept
open Go.Maps (Keyed)
open Go.ChangeShapes Go.WideShapes Go.ChangeAt

/-- the first i keys with their labels -/
def SL (i : Nat) : List (LK × Nat) := (List.range i).map fun j => (kk (UInt8.ofNat j), 100 + j)
theorem SL_succ (i : Nat) : SL (i + 1) = SL i ++ [(kk (UInt8.ofNat i), 100 + i)] := by simp [SL, List.range_succ]
theorem SL_length (i : Nat) : (SL i).length = i := by simp [SL]
theorem SL_at (i j : Nat) (h : j < i) : (SL i)[j]? = some (kk (UInt8.ofNat j), 100 + j) := by simp [SL, h]
theorem ofNat_ne {a b : Nat} (ha : a < 256) (hb : b < 256) (h : a ≠ b) : UInt8.ofNat a ≠ UInt8.ofNat b := fun e => by
  have := congrArg UInt8.toNat e
  rw [UInt8.toNat_ofNat', UInt8.toNat_ofNat'] at this
  omega
theorem SL_no (i : Nat) (b : Nat) (hi : i ≤ b) (hb : b < 256) : ∀ p ∈ SL i, p.1 ≠ kk (UInt8.ofNat b) := fun p hp e => by
  obtain ⟨j, hj, rfl⟩ := List.mem_map.1 hp
  have hj := List.mem_range.1 hj
  exact ofNat_ne (by omega) hb (by omega) (kk_inj e)
theorem SL_has (i q : Nat) (h0 : 100 ≤ q) (h1 : q < 100 + i) : ∃ p ∈ SL i, p.2 = q :=
  ⟨(kk (UInt8.ofNat (q - 100)), 100 + (q - 100)), List.mem_map.2 ⟨q - 100, List.mem_range.2 (by omega), rfl⟩, by show 100 + (q - 100) = q; omega⟩
theorem SL_free (i q : Nat) (h : 100 + i ≤ q) : ∀ p ∈ SL i, p.2 ≠ q := fun p hp e => by
  obtain ⟨j, hj, rfl⟩ := List.mem_map.1 hp
  have hj := List.mem_range.1 hj
  simp only at e
  omega
/-- without the one at g -/
theorem SLe_mem {i g : Nat} (hg : g < i) {p : LK × Nat} (h : p ∈ (SL i).eraseIdx g) : ∃ j, j < i ∧ j ≠ g ∧ p = (kk (UInt8.ofNat j), 100 + j) := by
  obtain ⟨j, hj, e⟩ := List.mem_eraseIdx_iff_getElem?.1 h
  have hl := (List.getElem?_eq_some_iff.1 e).1
  rw [SL_length] at hl
  rw [SL_at i j hl] at e
  exact ⟨j, hl, hj, (Option.some.inj e).symm⟩
theorem SLe_of {i g j : Nat} (hj : j < i) (hne : j ≠ g) : (kk (UInt8.ofNat j), 100 + j) ∈ (SL i).eraseIdx g :=
  List.mem_eraseIdx_iff_getElem?.2 ⟨j, hne, SL_at i j hj⟩
theorem SLe_length {i g : Nat} (hg : g < i) : ((SL i).eraseIdx g).length = i - 1 := by
  rw [List.length_eraseIdx_of_lt (by rw [SL_length]; exact hg), SL_length]
theorem SLe_no {i g b : Nat} (hg : g < i) (hb : b < 256) (hi : i ≤ 256) (h : i ≤ b ∨ b = g) : ∀ p ∈ (SL i).eraseIdx g, p.1 ≠ kk (UInt8.ofNat b) := fun p hp e => by
  obtain ⟨j, h1, h2, rfl⟩ := SLe_mem hg hp
  exact ofNat_ne (by omega) hb (by omega) (kk_inj e)

theorem take_is {w : World} {b m1 m2 low high : Nat} {S : List (LK × Nat)} {k : LK} {n : Nat} {z : Int} (h : LabAt w b m1 m2 low high S) (hk : k.Ok) (hm : kmay k = true) (hj : ∀ p ∈ S, p.1 ≠ k) (h0 : low ≤ n) (h1 : n ≤ high) (h2 : ∀ q, low ≤ q → q < n → ∃ p ∈ S, p.2 = q) (h3 : ∀ p ∈ S, p.2 ≠ n) (hz : (n : Int) = z) :
    Calls Try.prog 9 #[.pointer (some ⟨b, 0, none⟩), k.v] w fun e w' => e = .returned (.tuple #[.int .u32 z, .int .i64 0]) ∧ LabAt w' b m1 m2 low high (S ++ [(k, n)]) ∧ GrownX (fun i => i = m1 ∨ i = m2) w w' :=
  hz ▸ take_at h hk hm hj h0 h1 h2 h3
theorem key_nat (b : Nat) (hb : b < 256) (w : World) : Calls Try.prog 10 #[.int .u8 b] w fun e w' => e = .returned (kk (UInt8.ofNat b)).v ∧ Below w.heap.size w w' := by
  have e : (b : Int) = ((UInt8.ofNat b).toNat : Int) := by rw [UInt8.toNat_ofNat']; omega
  rw [e]
  exact key_any _ w

set_option maxRecDepth 100000 in
set_option maxHeartbeats 2000000 in
theorem labelsLeast_walk (nn back : Nat) (h0 : nn < 256) (h1 : back < 256) (w : World) : Calls Try.prog 3 #[.int .u8 nn, .int .u8 back] w fun e w' => e = .returned (.bool true) ∧ Below w.heap.size w w' := by
  generalize hk : 1 + nn % 100 = k
  generalize hg : back % k = g
  have k0 : 1 ≤ k := by omega
  have k1 : k ≤ 100 := by omega
  have g1 : g < k := by rw [← hg]; exact Nat.mod_lt _ (by omega)
  have s2 : (1 : Int) + (nn : Int) % 100 = (k : Int) := by omega
  have s3 : (back : Int) % (k : Int) = (g : Int) := by rw [← hg]; exact (Int.natCast_emod back k).symm
  have kz : ((k : Int) == 0) = false := by rw [beq_eq_false_iff_ne]; omega
  clear hk hg
  go_enter Try.func3, Try.ntmps3
  go_wp2_with fail
  refine (works_any _).mono ?_
  rintro e w1 ⟨rfl, hb⟩
  have HB0 := Lib.hid hb
  clear hb
  go_wp2_with fail
  refine (new_ok 100 1000 _ (by omega) (by omega) (by omega)).mono ?_
  rintro e w2 ⟨rfl, hL, hb, hz⟩
  have hx0 : w.heap.size ≤ w1.heap.size := HB0.out.size
  have HL0 := Lib.hid hL
  have HB := Lib.hid (HB0.out.trans (hb.mono HB0.out.size))
  clear hL hb hz HB0
  go_wp2_with fail
  go_loopw [8] (fun i wr => ∃ j : Nat, j ≤ k ∧ i = .int .i64 j ∧ Hid (LabAt wr (w1.heap.size + 2) w1.heap.size (w1.heap.size + 1) 100 1000 (SL j)) ∧ Hid (Below w.heap.size w wr)) (fun i _ => k + 1 - (intOf i).toNat)
  case atStart => exact ⟨0, by omega, rfl, HL0.out, HB.out⟩
  case round =>
    obtain ⟨j, hj, rfl, HL, HB1⟩ := hrel
    clear HL0 HB
    by_cases hlt : j < k
    · go_wp2_with fail
      refine (key_nat j (by omega) _).mono ?_
      rintro e w3 ⟨rfl, hb⟩
      have HL3 := Lib.hid (HL.out.below hb (Nat.le_refl _))
      have HB3 := Lib.hid (HB1.out.trans (hb.mono HB1.out.size))
      clear HL HB1 hb
      go_wp2_with fail
      refine (take_is (n := 100 + j) (z := 100 + (j : Int)) HL3.out (kk_ok _) (kk_may _) (SL_no j j (Nat.le_refl _) (by omega)) (by omega) (by omega) (fun q h1 h2 => SL_has j q h1 h2) (SL_free j _ (Nat.le_refl _)) (by omega)).mono ?_
      rintro e w4 ⟨rfl, hl, hgr⟩
      rw [← SL_succ] at hl
      have HL4 := Lib.hid hl
      have HB4 := Lib.hid (hgr.below2 HB3.out (by omega) (by omega))
      clear HL3 HB3 hl hgr
      go_wp2_with fail
      exact ⟨⟨j + 1, by omega, by go_num, HL4.out, HB4.out⟩, by simp [intOf]; omega⟩
    · obtain rfl : k = j := by omega
      go_wp2_with fail
      refine (left_is HL.out (by rw [SL_length]; omega) (901 - (k : Int)) (by rw [SL_length]; omega)).mono ?_
      rintro e w3 ⟨rfl, q, hq⟩
      have HL3 : Hid (LabAt w3 (w1.heap.size + 2) w1.heap.size (w1.heap.size + 1) 100 1000 (SL k)) := by rw [hq]; exact HL.out.drew q
      have HB3 : Hid (Below w.heap.size w w3) := by rw [hq]; exact below_drewN HB1.out q
      clear HL HB1 hq q
      go_wp2_with fail
      refine (key_nat g (by omega) _).mono ?_
      rintro e w4 ⟨rfl, hb⟩
      have HL4 := Lib.hid (HL3.out.below hb (Nat.le_refl _))
      have HB4 := Lib.hid (HB3.out.trans (hb.mono HB3.out.size))
      clear HL3 HB3 hb
      go_wp2_with fail
      refine (give_some _ _ _ _ _ _ g _ _ _ HL4.out (kk_ok _) (SL_at k g g1)).mono ?_
      rintro e w5 ⟨rfl, hl, hgr⟩
      have HL5 := Lib.hid hl
      have HB5 := Lib.hid (hgr.below2 HB4.out (by omega) (by omega))
      clear HL4 HB4 hl hgr
      go_wp2_with fail
      refine (left_is HL5.out (by rw [SLe_length g1]; omega) (902 - (k : Int)) (by rw [SLe_length g1]; omega)).mono ?_
      rintro e w6 ⟨rfl, q, hq⟩
      have HL6 : Hid (LabAt w6 (w1.heap.size + 2) w1.heap.size (w1.heap.size + 1) 100 1000 ((SL k).eraseIdx g)) := by rw [hq]; exact HL5.out.drew q
      have HB6 : Hid (Below w.heap.size w w6) := by rw [hq]; exact below_drewN HB5.out q
      clear HL5 HB5 hq q
      go_wp2_with fail
      refine (key_nat 200 (by omega) _).mono ?_
      rintro e w7 ⟨rfl, hb⟩
      have HL7 := Lib.hid (HL6.out.below hb (Nat.le_refl _))
      have HB7 := Lib.hid (HB6.out.trans (hb.mono HB6.out.size))
      clear HL6 HB6 hb
      go_wp2_with fail
      refine (take_is (n := 100 + g) (z := 100 + (g : Int)) HL7.out (kk_ok _) (kk_may _) (SLe_no (b := 200) g1 (by omega) (by omega) (Or.inl (by omega))) (by omega) (by omega)
        (fun q h1 h2 => ⟨_, SLe_of (i := k) (g := g) (j := q - 100) (by omega) (by omega), by show 100 + (q - 100) = q; omega⟩)
        (fun p hp e => by obtain ⟨j, h1, h2, rfl⟩ := SLe_mem g1 hp; simp only at e; omega) (by omega)).mono ?_
      rintro e w8 ⟨rfl, hl, hgr⟩
      have HL8 := Lib.hid hl
      have HB8 := Lib.hid (hgr.below2 HB7.out (by omega) (by omega))
      clear HL7 HB7 hl hgr
      go_wp2_with fail
      refine (key_nat g (by omega) _).mono ?_
      rintro e w9 ⟨rfl, hb⟩
      have HL9 := Lib.hid (HL8.out.below hb (Nat.le_refl _))
      have HB9 := Lib.hid (HB8.out.trans (hb.mono HB8.out.size))
      clear HL8 HB8 hb
      go_wp2_with fail
      refine (take_is (n := 100 + k) (z := 100 + (k : Int)) HL9.out (kk_ok _) (kk_may _)
        (fun p hp => by
          rcases List.mem_append.1 hp with hp | hp
          · exact SLe_no g1 (by omega) (by omega) (Or.inr rfl) p hp
          · simp at hp
            subst hp
            exact fun e => ofNat_ne (a := 200) (by omega) (by omega) (by omega) (kk_inj e)) (by omega) (by omega)
        (fun q h1 h2 => by
          by_cases hq : q = 100 + g
          · exact ⟨_, List.mem_append_right _ (List.mem_singleton.2 rfl), hq.symm⟩
          · exact ⟨_, List.mem_append_left _ (SLe_of (i := k) (g := g) (j := q - 100) (by omega) (by omega)), by show 100 + (q - 100) = q; omega⟩)
        (fun p hp e => by
          rcases List.mem_append.1 hp with hp | hp
          · obtain ⟨j, h1, h2, rfl⟩ := SLe_mem g1 hp
            simp only at e
            omega
          · simp at hp
            subst hp
            simp only at e
            omega) (by omega)).mono ?_
      rintro e w10 ⟨rfl, hl, hgr⟩
      have HL10 := Lib.hid hl
      have HB10 := Lib.hid (hgr.below2 HB9.out (by omega) (by omega))
      clear HL9 HB9 hl hgr
      go_wp2_with fail
      refine (left_is HL10.out (by simp [SLe_length g1]; omega) (900 - (k : Int)) (by simp [SLe_length g1]; omega)).mono ?_
      rintro e w11 ⟨rfl, q, rfl⟩
      go_wp2_with fail
      go_ret
      exact ⟨rfl, below_drewN HB10.out q⟩

set_option maxRecDepth 100000 in
theorem labelsLeast_lifted (os : Os) (started : os.Started) (H : Type) (enc : TypeId × Value → H) :
    ReturnsInHanded {} Try.checked os 3 .any (Rows.labelsLeastSpec.pre6 enc Try.prog Try.f3 Rows.labelsLeastRow.domain false) (Rows.labelsLeastSpec.post enc Try.prog Try.f3 false true false false) := by
  refine returnsInHanded_of_change (C := Try.checked) own started (by kernel_rfl) Try.func3
    (ChangeSpec.witness6 (enc := enc) (C := Try.checked) false ⟨#[], #[.int .u8 0, .int .u8 0], []⟩ 8 (by kernel_rfl) (by kernel_rfl) (by kernel_rfl) (by kernel_rfl)) ?_
  intro W base args ds gs before hval0 hW hcnd _
  have hval : ∀ (j : Nat) t v, Try.f3.params[j]? = some t → args[j]? = some v → Value.okWide Try.prog W .any base t v := hval0
  have hW' := hW
  obtain ⟨p, q, hA0, hV, rfl, hfz, hnd⟩ := hW
  have hA : DataW.TrodAll enc Try.prog W 0 (fun _ => true) true Try.f3.params.toList args.toList ds p := hA0
  rw [Try.params3] at hA hval
  obtain ⟨v0, vs0, d0, ds0, p0, q0, hargs, rfl, rfl, h0, r0⟩ := trodAll_cons hA
  obtain ⟨v1, vs1, d1, ds1, p1, q1, rfl, rfl, rfl, h1, r1⟩ := trodAll_cons r0
  obtain ⟨rfl, rfl, rfl⟩ := trodAll_nil r1
  obtain rfl : args = #[v0, v1] := by cases args; simp_all
  obtain ⟨rfl, rfl⟩ := trodVars_none hV
  obtain ⟨n, rfl, rfl, rfl, wf_n⟩ := open_int Try.underlying5 (hval 0 5 v0 rfl rfl) h0
  have bd_n : 0 ≤ n ∧ n ≤ 255 := by simpa [Lit.wf, IntKind.min, IntKind.max, IntKind.signed, IntKind.bits] using wf_n
  obtain ⟨back, rfl, rfl, rfl, wf_back⟩ := open_int Try.underlying5 (hval 1 5 v1 rfl rfl) h1
  have bd_back : 0 ≤ back ∧ back ≤ 255 := by simpa [Lit.wf, IntKind.min, IntKind.max, IntKind.signed, IntKind.bits] using wf_back
  obtain ⟨n, rfl⟩ := Int.eq_ofNat_of_zero_le bd_n.1
  obtain ⟨back, rfl⟩ := Int.eq_ofNat_of_zero_le bd_back.1
  refine (labelsLeast_walk n back (by omega) (by omega) W).mono fun e W' ⟨he, bel⟩ => ?_
  exact ⟨_, he, law_post laidOut (by kernel_rfl) rfl (by kernel_rfl) Try.underlying4 hW' rfl bel⟩

theorem labelsLeast_holds : Rows.LabelsLeastSaid :=
  OpenClaim.holds_of_wide 3 Try.f3 rfl rfl rfl rfl rfl rfl rfl ⟨rfl, rfl, rfl, rfl, rfl⟩ rfl rfl rfl rfl rfl (by kernel_rfl) Try.func3 (by kernel_rfl)
    (of_decide_eq_true (by kernel_rfl)) (by unfold Func.isWrapper; first | (rw [if_pos (by decide +kernel)]; kernel_rfl) | (rw [if_neg (by decide +kernel)]; exact ⟨rfl, rfl⟩))
    (fun os started H enc _ => labelsLeast_lifted os started H enc)

end Go.Proofs.Ytngehobekmijbaa
