/-
  WheelKnown: the chapter's examples. Conditions: none of its own.
-/
import Derived.Test.YtcgegaahdbnacaaWhU
set_option linter.unusedVariables false
set_option linter.unusedSimpArgs false
namespace Go.Proofs.Ytcgegaahdbnacaa
open Go.RowKit Go.MapKept Go.Shelf Go.Lib
open Go.Maps (Keyed)

theorem wkey_str (kd : Int) (s : ByteArray) (f : Int) (w : World) : Calls Try.prog 17 #[.int .i64 kd, .string s, .int .i64 f] w fun e w' => e = .returned (.agg #[.int .i64 kd, .string s, .int .i64 f]) ∧ Below w.heap.size w w' :=
  wkey_any ⟨kd, s, f⟩ w
theorem bk_cells {w : World} {g : Nat} {T : TypeId} (h : CellsAt w g #[.int .i64 0, .string ⟨#[97]⟩, .int .i64 0, .int .i64 8, .string ⟨#[97]⟩, .int .i64 0, .int .i64 1, .string ⟨#[65]⟩, .int .i64 0, .int .i64 1, .string ⟨#[]⟩, .int .i64 0, .int .i64 1, .string ⟨#[97]⟩, .int .i64 6, .int .i64 1, .string ⟨#[97]⟩, .int .i64 (-1), .int .i64 1, .string ⟨#[97, 98, 99, 100, 101, 102, 103, 104, 105, 106, 107, 108, 109, 110, 111, 112, 113]⟩, .int .i64 0] T) (j : Nat) (k : WK) (hk : BK[j]? = some k) : w.cell? ⟨g, j * 3, none⟩ = some (.int .i64 k.kind) ∧ w.cell? ⟨g, j * 3 + 1, none⟩ = some (.string k.peer) ∧ w.cell? ⟨g, j * 3 + 2, none⟩ = some (.int .i64 k.fam) := by
  have hj : j < 7 := (List.getElem?_eq_some_iff.1 hk).1
  rcases (show j = 0 ∨ j = 1 ∨ j = 2 ∨ j = 3 ∨ j = 4 ∨ j = 5 ∨ j = 6 by omega) with rfl | rfl | rfl | rfl | rfl | rfl | rfl <;>
    (injection hk with hk; subst hk; exact ⟨(h.c _).trans rfl, (h.c _).trans rfl, (h.c _).trans rfl⟩)
theorem zz_ok : (⟨2, ⟨#[122, 122]⟩, 0⟩ : WK).Ok := ⟨by show (2 : Nat) ≤ _; omega, by decide, by decide⟩
theorem zz_may : KMay ⟨2, ⟨#[122, 122]⟩, 0⟩ := by
  refine ⟨by decide, ⟨by show 0 < (2 : Nat); omega, by show (2 : Nat) ≤ 16; omega, fun j hj => ?_⟩, by decide⟩
  have hj' : j < 2 := hj
  rcases (show j = 0 ∨ j = 1 by omega) with rfl | rfl
  · show okc 0 122 = true; decide
  · show okc 1 122 = true; decide
theorem zz_no : ∀ p ∈ knownS 1023, p.k ≠ (⟨2, ⟨#[122, 122]⟩, 0⟩ : WK) := fun p hp e => by
  rcases List.mem_cons.1 hp with rfl | hp
  · exact absurd (congrArg WK.kind e) (by decide)
  · obtain ⟨j, hj, rfl⟩ := List.mem_map.1 hp
    have h1 := congrArg (fun k : WK => k.peer.size) e
    exact absurd h1 (by show ¬ (4 : Nat) = 2; omega)
def finS : List Tm := ⟨3, kq 1 97 0⟩ :: (List.range 1023).map fun j => ⟨7, nkey j⟩
theorem finS_set : (knownS 1023).set 0 ⟨3, kq 1 97 0⟩ = finS := rfl
theorem finS_due2 : finS.filter (dueF 2) = [] := by
  rw [List.filter_eq_nil_iff]
  intro p hp
  rcases List.mem_cons.1 hp with rfl | hp
  · decide
  · obtain ⟨j, _, rfl⟩ := List.mem_map.1 hp
    simp [dueF]
theorem finS_due3 : finS.filter (dueF 3) = [⟨3, kq 1 97 0⟩] := by
  unfold finS
  rw [List.filter_cons_of_pos (by simp [dueF]), List.filter_eq_nil_iff.2]
  intro p hp
  obtain ⟨j, _, rfl⟩ := List.mem_map.1 hp
  simp [dueF]

theorem finS_three (p : Tm) (hp : p ∈ finS) : p.at_ = 3 ∨ p.at_ = 7 := by
  rcases List.mem_cons.1 hp with rfl | hp
  · exact Or.inl rfl
  · obtain ⟨j, _, rfl⟩ := List.mem_map.1 hp
    exact Or.inr rfl
theorem next_fin {w w' : World} {e : Ending} (h : NextPost w finS e w') : e = .returned (.tuple #[.int .u64 3, .bool true]) ∧ Below w.heap.size w w' := by
  refine ⟨?_, h.2⟩
  rcases h.1 with ⟨h0, _⟩ | ⟨n, ⟨p, hp, h1⟩, h2, h3⟩
  · exact absurd h0 (by unfold finS; simp)
  · have h4 := h2 ⟨3, kq 1 97 0⟩ (by unfold finS; simp)
    have h5 : n ≤ 3 := h4
    have h6 := finS_three p hp
    obtain rfl : n = 3 := by omega
    exact h3
theorem next_nil {w w' : World} {e : Ending} (h : NextPost w [] e w') : e = .returned (.tuple #[.int .u64 0, .bool false]) ∧ Below w.heap.size w w' := by
  refine ⟨?_, h.2⟩
  rcases h.1 with ⟨_, h0⟩ | ⟨n, ⟨p, hp, _⟩, _⟩
  · exact h0
  · exact absurd hp (by simp)
theorem finS_not2 : finS.filter (fun x => !dueF 2 x) = finS := by
  rw [List.filter_eq_self]
  intro p hp
  have := finS_three p hp
  simp [dueF]
  omega
theorem take_two {w w' : World} {b m : Nat} {e : Ending} (h : PickPost w b m finS (dueF 2) e w') : ∃ a c K, e = .returned (.slice a 0 c) ∧ K.Perm finS ∧ WheelAt w' b m K ∧ GrownX (fun i => i = m) w w' := by
  obtain ⟨v, O, K, rfl, hO, hp, hW, hK, hF, hg⟩ := h
  rw [finS_due2] at hp
  have := hp.eq_nil
  subst this
  rw [finS_not2] at hK
  rcases hF.2 with ⟨h0, _⟩ | ⟨g', cap', cur, fr, hv, _⟩
  · exact ⟨_, _, K, by rw [h0], hK, hW, hg⟩
  · exact ⟨_, _, K, by rw [hv]; rfl, hK, hW, hg⟩
theorem take_three {w w' : World} {b m : Nat} {K : List Tm} {e : Ending} (hk : K.Perm finS) (h : PickPost w b m K (dueF 3) e w') : ∃ a c, e = .returned (.slice a 1 c) ∧ GrownX (fun i => i = m) w w' := by
  obtain ⟨v, O, K', rfl, hO, hp, hW, hK, hF, hg⟩ := h
  have h1 := hp.trans (hk.filter _)
  rw [finS_due3] at h1
  have h2 := List.perm_singleton.1 h1
  subst h2
  obtain ⟨g, cap, hv, _⟩ := hF.at_ (i := 0) (x := ⟨3, kq 1 97 0⟩) rfl
  exact ⟨_, _, by rw [hv]; rfl, hg⟩
set_option maxRecDepth 100000 in
set_option maxHeartbeats 16000000 in
theorem wheelKnown_walk (w : World) : Calls Try.prog 5 #[] w fun e w' => e = .returned (.bool true) ∧ Below w.heap.size w w' := by
  go_enter Try.func5, Try.ntmps5
  go_wp2_with fail
  refine (wnew_any _).mono ?_
  rintro e w0 ⟨rfl, hW, hb, hz⟩
  have HW0 := Lib.hid hW
  have HB0 := Lib.hid hb
  clear hW hb hz
  go_wp2_with fail
  refine (wkey_lit 0 97 0 _).mono ?_
  rintro e w1 ⟨rfl, hb⟩
  have HW1 := Lib.hid (HW0.out.below hb (Nat.le_refl _))
  have HB1 := Lib.hid (HB0.out.trans (hb.mono HB0.out.size))
  clear hb HW0 HB0
  go_wp2_with fail
  refine (wkey_lit 8 97 0 _).mono ?_
  rintro e w2 ⟨rfl, hb⟩
  have HW2 := Lib.hid (HW1.out.below hb (Nat.le_refl _))
  have HB2 := Lib.hid (HB1.out.trans (hb.mono HB1.out.size))
  clear hb HW1 HB1
  go_wp2_with fail
  refine (wkey_lit 1 65 0 _).mono ?_
  rintro e w3 ⟨rfl, hb⟩
  have HW3 := Lib.hid (HW2.out.below hb (Nat.le_refl _))
  have HB3 := Lib.hid (HB2.out.trans (hb.mono HB2.out.size))
  clear hb HW2 HB2
  go_wp2_with fail
  refine (wkey_str 1 ⟨#[]⟩ 0 _).mono ?_
  rintro e w4 ⟨rfl, hb⟩
  have HW4 := Lib.hid (HW3.out.below hb (Nat.le_refl _))
  have HB4 := Lib.hid (HB3.out.trans (hb.mono HB3.out.size))
  clear hb HW3 HB3
  go_wp2_with fail
  refine (wkey_lit 1 97 6 _).mono ?_
  rintro e w5 ⟨rfl, hb⟩
  have HW5 := Lib.hid (HW4.out.below hb (Nat.le_refl _))
  have HB5 := Lib.hid (HB4.out.trans (hb.mono HB4.out.size))
  clear hb HW4 HB4
  go_wp2_with fail
  refine (wkey_lit 1 97 (-1) _).mono ?_
  rintro e w6 ⟨rfl, hb⟩
  have HW6 := Lib.hid (HW5.out.below hb (Nat.le_refl _))
  have HB6 := Lib.hid (HB5.out.trans (hb.mono HB5.out.size))
  clear hb HW5 HB5
  go_wp2_with fail
  refine (wkey_str 1 ⟨#[97, 98, 99, 100, 101, 102, 103, 104, 105, 106, 107, 108, 109, 110, 111, 112, 113]⟩ 0 _).mono ?_
  rintro e w7 ⟨rfl, hb⟩
  have HW7 := Lib.hid (HW6.out.below hb (Nat.le_refl _))
  have HB7 := Lib.hid (HB6.out.trans (hb.mono HB6.out.size))
  clear hb HW6 HB6
  have HC0 := Lib.hid (CellsAt.new w7 #[.int .i64 0, .string ⟨#[97]⟩, .int .i64 0, .int .i64 8, .string ⟨#[97]⟩, .int .i64 0, .int .i64 1, .string ⟨#[65]⟩, .int .i64 0, .int .i64 1, .string ⟨#[]⟩, .int .i64 0, .int .i64 1, .string ⟨#[97]⟩, .int .i64 6, .int .i64 1, .string ⟨#[97]⟩, .int .i64 (-1), .int .i64 1, .string ⟨#[97, 98, 99, 100, 101, 102, 103, 104, 105, 106, 107, 108, 109, 110, 111, 112, 113]⟩, .int .i64 0] 30)
  have HW8 := Lib.hid (HW7.out.alloc (.cells #[.int .i64 0, .string ⟨#[97]⟩, .int .i64 0, .int .i64 8, .string ⟨#[97]⟩, .int .i64 0, .int .i64 1, .string ⟨#[65]⟩, .int .i64 0, .int .i64 1, .string ⟨#[]⟩, .int .i64 0, .int .i64 1, .string ⟨#[97]⟩, .int .i64 6, .int .i64 1, .string ⟨#[97]⟩, .int .i64 (-1), .int .i64 1, .string ⟨#[97, 98, 99, 100, 101, 102, 103, 104, 105, 106, 107, 108, 109, 110, 111, 112, 113]⟩, .int .i64 0] 30))
  have HB8 := Lib.hid (HB7.out.alloc HB7.out.size (.cells #[.int .i64 0, .string ⟨#[97]⟩, .int .i64 0, .int .i64 8, .string ⟨#[97]⟩, .int .i64 0, .int .i64 1, .string ⟨#[65]⟩, .int .i64 0, .int .i64 1, .string ⟨#[]⟩, .int .i64 0, .int .i64 1, .string ⟨#[97]⟩, .int .i64 6, .int .i64 1, .string ⟨#[97]⟩, .int .i64 (-1), .int .i64 1, .string ⟨#[97, 98, 99, 100, 101, 102, 103, 104, 105, 106, 107, 108, 109, 110, 111, 112, 113]⟩, .int .i64 0] 30))
  have hwz : w.heap.size + 2 ≤ w7.heap.size := by have := HW7.out.lt.1; omega
  clear HW7 HB7
  go_wp2_with fail
  go_loopw [25] (fun x wr => ∃ j : Nat, j ≤ 7 ∧ x = .int .i64 j ∧ Hid (WheelAt wr (w.heap.size + 1) w.heap.size []) ∧ Hid (CellsAt wr w7.heap.size #[.int .i64 0, .string ⟨#[97]⟩, .int .i64 0, .int .i64 8, .string ⟨#[97]⟩, .int .i64 0, .int .i64 1, .string ⟨#[65]⟩, .int .i64 0, .int .i64 1, .string ⟨#[]⟩, .int .i64 0, .int .i64 1, .string ⟨#[97]⟩, .int .i64 6, .int .i64 1, .string ⟨#[97]⟩, .int .i64 (-1), .int .i64 1, .string ⟨#[97, 98, 99, 100, 101, 102, 103, 104, 105, 106, 107, 108, 109, 110, 111, 112, 113]⟩, .int .i64 0] 30) ∧ Hid (Below w.heap.size w wr)) (fun x _ => 8 - (intOf x).toNat)
  case atStart => exact ⟨0, by omega, rfl, HW8.out, HC0.out, HB8.out⟩
  case round =>
    obtain ⟨j, hj, rfl, HW, HC, HB⟩ := hrel
    clear HW8 HC0 HB8
    by_cases hlt : j < 7
    · obtain ⟨k, hk⟩ : ∃ k, BK[j]? = some k := ⟨BK[j]'hlt, List.getElem?_eq_getElem hlt⟩
      obtain ⟨x0, x1, x2⟩ := bk_cells HC.out j k hk
      obtain ⟨hko, hkm⟩ := bk_bad k (List.mem_of_getElem? hk)
      have HW1 := Lib.hid (HW.out.alloc (.cells #[.int .i64 k.kind, .string k.peer, .int .i64 k.fam] 30))
      have HC1 := Lib.hid (HC.out.alloc (.cells #[.int .i64 k.kind, .string k.peer, .int .i64 k.fam] 30))
      have HB1 := Lib.hid (HB.out.alloc HB.out.size (.cells #[.int .i64 k.kind, .string k.peer, .int .i64 k.fam] 30))
      have HKO := Lib.hid hko
      have HKM := Lib.hid hkm
      clear hk hko hkm HW HC HB
      have HCON := Lib.hid (warm_bad _ _ _ _ k 1 HW1.out HKO.out (Or.inl HKM.out))
      rw [WK.agg] at HCON
      go_wp2_with fail
      refine HCON.out.mono ?_
      rintro e w9 ⟨rfl, hb⟩
      have HW2 := Lib.hid (HW1.out.below hb (Nat.le_refl _))
      have HC2 := Lib.hid (HC1.out.below hb HC1.out.lt)
      have HB2 := Lib.hid (HB1.out.trans (hb.mono HB1.out.size))
      clear hb HW1 HC1 HB1 HCON x0 x1 x2
      go_wp2_with fail
      exact ⟨⟨j + 1, by omega, by go_num, HW2.out, HC2.out, HB2.out⟩, by simp [intOf]; omega⟩
    · obtain rfl : j = 7 := by omega
      have HW10 := HW
      have HB10 := HB
      clear HW HB HC
      go_wp2_with fail
      refine (wkey_lit 1 97 0 _).mono ?_
      rintro e w11 ⟨rfl, hb⟩
      have HW11 := Lib.hid (HW10.out.below hb (Nat.le_refl _))
      have HB11 := Lib.hid (HB10.out.trans (hb.mono HB10.out.size))
      clear hb HW10 HB10
      go_wp2_with fail
      refine (warm_bad _ _ _ _ (kq 1 97 0) 1099511627777 HW11.out (kq_ok _ _ _ (by omega) (by omega)) (Or.inr (by omega))).mono ?_
      rintro e w12 ⟨rfl, hb⟩
      have HW12 := Lib.hid (HW11.out.below hb (Nat.le_refl _))
      have HB12 := Lib.hid (HB11.out.trans (hb.mono HB11.out.size))
      clear hb HW11 HB11
      go_wp2_with fail
      refine (wkey_lit 1 97 0 _).mono ?_
      rintro e w13 ⟨rfl, hb⟩
      have HW13 := Lib.hid (HW12.out.below hb (Nat.le_refl _))
      have HB13 := Lib.hid (HB12.out.trans (hb.mono HB12.out.size))
      clear hb HW12 HB12
      go_wp2_with fail
      refine (warm_none _ _ _ _ (kq 1 97 0) 1099511627776 HW13.out (kq_ok _ _ _ (by omega) (by omega)) (kq_may _ _ _ (by omega) (by omega) (by decide)) (by omega) (by simp) (by simp)).mono ?_
      rintro e w14 ⟨rfl, hw, hg⟩
      have HW14 := Lib.hid hw
      have HB14 : Hid (Below w.heap.size w w14) := hg.below HB13.out (fun i hi => by omega) HB13.out.size
      clear hw hg HW13 HB13
      go_wp2_with fail
      have HW15 : Hid (WheelAt w14 (w.heap.size + 1) w.heap.size (knownS 0)) := HW14.out
      have HB15 := HB14
      clear HW14 HB14
      go_loopw [4] (fun x wr => ∃ j : Nat, j ≤ 1023 ∧ x = .int .i64 j ∧ Hid (WheelAt wr (w.heap.size + 1) w.heap.size (knownS j)) ∧ Hid (Below w.heap.size w wr)) (fun x _ => 1024 - (intOf x).toNat)
      case atStart => exact ⟨0, by omega, rfl, HW15.out, HB15.out⟩
      case round =>
        obtain ⟨j, hj, rfl, HW, HB⟩ := hrel
        clear HW15 HB15
        by_cases hlt : j < 1023
        · have hcv := nconv j hlt wr _ _ _ rfl rfl rfl
          have HWa := Lib.hid (HW.out.alloc (.cells #[.int .u8 98, .int .u8 (97 + (j : Int) % 26), .int .u8 (97 + (j : Int) / 26 % 26), .int .u8 (97 + (j : Int) / 676)] 5))
          have HBa := Lib.hid (HB.out.alloc HB.out.size (.cells #[.int .u8 98, .int .u8 (97 + (j : Int) % 26), .int .u8 (97 + (j : Int) / 26 % 26), .int .u8 (97 + (j : Int) / 676)] 5))
          clear HW HB
          go_wp2_with fail
          refine (wkey_str _ (nname j) _ _).mono ?_
          rintro e wk ⟨rfl, hb⟩
          have HWb := Lib.hid (HWa.out.below hb (Nat.le_refl _))
          have HBb := Lib.hid (HBa.out.trans (hb.mono HBa.out.size))
          clear hb HWa HBa
          have HCON := Lib.hid (warm_none _ _ _ _ (nkey j) 7 HWb.out (nkey_ok j hlt) (nkey_may j hlt) (by omega) (knownS_no j hlt) (by rw [knownS_len]; omega))
          rw [show (nkey j).v = .agg #[.int .i64 (1 + (j : Int) % 7), .string (nname j), .int .i64 ((j : Int) % 6)] from rfl, knownS_snoc] at HCON
          clear hcv
          go_wp2_with fail
          refine HCON.out.mono ?_
          rintro e wm ⟨rfl, hw, hg⟩
          have HWc := Lib.hid hw
          have HBc : Hid (Below w.heap.size w wm) := hg.below HBb.out (fun i hi => by omega) HBb.out.size
          clear hw hg HWb HBb HCON
          go_wp2_with fail
          exact ⟨⟨j + 1, by omega, by go_num, HWc.out, HBc.out⟩, by simp [intOf]; omega⟩
        · obtain rfl : j = 1023 := by omega
          have HW0 := HW
          have HB0 := HB
          clear HW HB
          go_wp2_with fail
          have HLEN := Lib.hid (wlen_any _ _ _ _ HW0.out)
          rw [knownS_len] at HLEN
          refine HLEN.out.mono ?_
          rintro e wq ⟨rfl, hw⟩
          have hw := hw.symm
          subst hw
          clear HLEN
          go_wp2_with fail
          refine (wkey_str 2 ⟨#[122, 122]⟩ 0 _).mono ?_
          rintro e w1 ⟨rfl, hb⟩
          have HW1 := Lib.hid (HW0.out.below hb (Nat.le_refl _))
          have HB1 := Lib.hid (HB0.out.trans (hb.mono HB0.out.size))
          clear hb HW0 HB0
          go_wp2_with fail
          refine (warm_full _ _ _ _ ⟨2, ⟨#[122, 122]⟩, 0⟩ 7 HW1.out zz_ok zz_may (by omega) zz_no (knownS_len 1023)).mono ?_
          rintro e w2 ⟨rfl, hb⟩
          have HW2 := Lib.hid (HW1.out.below hb (Nat.le_refl _))
          have HB2 := Lib.hid (HB1.out.trans (hb.mono HB1.out.size))
          clear hb HW1 HB1
          go_wp2_with fail
          refine (wkey_lit 1 97 0 _).mono ?_
          rintro e w3 ⟨rfl, hb⟩
          have HW3 := Lib.hid (HW2.out.below hb (Nat.le_refl _))
          have HB3 := Lib.hid (HB2.out.trans (hb.mono HB2.out.size))
          clear hb HW2 HB2
          go_wp2_with fail
          refine (warm_some _ _ _ 0 _ (kq 1 97 0) 3 1099511627776 HW3.out (kq_ok _ _ _ (by omega) (by omega)) (kq_may _ _ _ (by omega) (by omega) (by decide)) (by omega) rfl).mono ?_
          rintro e w4 ⟨rfl, hw, hg⟩
          rw [finS_set] at hw
          have HW4 := Lib.hid hw
          have HB4 : Hid (Below w.heap.size w w4) := hg.below HB3.out (fun i hi => by omega) HB3.out.size
          clear hw hg HW3 HB3
          go_wp2_with fail
          refine (wnext_any _ _ _ _ HW4.out).mono ?_
          intro e w5 hp
          obtain ⟨rfl, hb⟩ := next_fin hp
          have HW5 := Lib.hid (HW4.out.below hb (Nat.le_refl _))
          have HB5 := Lib.hid (HB4.out.trans (hb.mono HB4.out.size))
          clear hb hp HW4 HB4
          go_wp2_with fail
          refine (wkey_lit 1 97 0 _).mono ?_
          rintro e w6 ⟨rfl, hb⟩
          have HW6 := Lib.hid (HW5.out.below hb (Nat.le_refl _))
          have HB6 := Lib.hid (HB5.out.trans (hb.mono HB5.out.size))
          clear hb HW5 HB5
          go_wp2_with fail
          refine (nat_any (kq 1 97 0) _).mono ?_
          rintro e w7 ⟨rfl, hb⟩
          have HW7 := Lib.hid (HW6.out.below hb (Nat.le_refl _))
          have HB7 := Lib.hid (HB6.out.trans (hb.mono HB6.out.size))
          clear hb HW6 HB6
          go_wp2_with fail
          refine (wnew_any _).mono ?_
          rintro e w8 ⟨rfl, hN, hb, hz⟩
          have HN8 := Lib.hid hN
          have HW8 := Lib.hid (HW7.out.below hb (Nat.le_refl _))
          have HB8 := Lib.hid (HB7.out.trans (hb.mono HB7.out.size))
          clear hN hb hz HW7 HB7
          go_wp2_with fail
          refine (wnext_any _ _ _ _ HN8.out).mono ?_
          intro e w9 hp
          obtain ⟨rfl, hb⟩ := next_nil hp
          have HW9 := Lib.hid (HW8.out.below hb (Nat.le_refl _))
          have HB9 := Lib.hid (HB8.out.trans (hb.mono HB8.out.size))
          clear hb hp HW8 HB8 HN8
          go_wp2_with fail
          refine (wtake_any _ _ _ 2 _ HW9.out).mono ?_
          intro e w10 hp
          obtain ⟨a2, c2, K, rfl, hK, hw, hg⟩ := take_two hp
          have HK := Lib.hid hK
          have HW10 := Lib.hid hw
          have HB10 : Hid (Below w.heap.size w w10) := hg.below HB9.out (fun i hi => by omega) HB9.out.size
          clear hp hK hw hg HW9 HB9
          go_wp2_with fail
          refine (wtake_any _ _ _ 3 _ HW10.out).mono ?_
          intro e w11 hp
          obtain ⟨a3, c3, rfl, hg⟩ := take_three HK.out hp
          have HB11 : Hid (Below w.heap.size w w11) := hg.below HB10.out (fun i hi => by omega) HB10.out.size
          clear hp hg HK HW10 HB10
          go_wp2_with fail
          refine (wkey_lit 1 97 0 _).mono ?_
          rintro e w12 ⟨rfl, hb⟩
          have HB12 := Lib.hid (HB11.out.trans (hb.mono HB11.out.size))
          clear hb HB11
          go_wp2_with fail
          refine (narm_any _ (kq 1 97 0) 1 _ (fun o => wnone_nil _)).mono ?_
          rintro e w13 ⟨rfl, hb⟩
          have HB13 := Lib.hid (HB12.out.trans (hb.mono HB12.out.size))
          clear hb HB12
          go_wp2_with fail
          have HE13 := Lib.hid (CellsAt.new w13 #[.map none] 50)
          have HB14 := Lib.hid (HB13.out.alloc HB13.out.size (.cells #[.map none] 50))
          clear HB13
          refine (wkey_str 0 ⟨#[]⟩ 9 _).mono ?_
          rintro e w15 ⟨rfl, hb⟩
          have HE15 := Lib.hid (HE13.out.below hb HE13.out.lt)
          have HB15 := Lib.hid (HB14.out.trans (hb.mono HB14.out.size))
          clear hb HB14 HE13
          go_wp2_with fail
          refine (narm_any (.pointer (some ⟨w13.heap.size, 0, none⟩)) ⟨0, ⟨#[]⟩, 9⟩ 1 _ (fun o => wnone_empty _ _ (((HE15.out.alloc o).c 0).trans rfl))).mono ?_
          rintro e w16 ⟨rfl, hb⟩
          have HB16 := Lib.hid (HB15.out.trans (hb.mono HB15.out.size))
          clear hb HB15 HE15
          go_wp2_with fail
          refine (nlen_any _).mono ?_
          rintro e wq ⟨rfl, hw⟩
          have hw := hw.symm
          subst hw
          go_wp2_with fail
          refine (ncopy_any _).mono ?_
          rintro e wq ⟨rfl, hw⟩
          have hw := hw.symm
          subst hw
          go_wp2_with fail
          refine (ntake_any 9 _).mono ?_
          rintro e wq ⟨rfl, hw⟩
          have hw := hw.symm
          subst hw
          go_wp2_with fail
          refine (ndrop_any ⟨#[97]⟩ _).mono ?_
          rintro e w17 ⟨rfl, hb⟩
          have HB17 := Lib.hid (HB16.out.trans (hb.mono HB16.out.size))
          clear hb HB16
          go_wp2_with fail
          refine (works_any _).mono ?_
          rintro e w18 ⟨rfl, hb⟩
          have HB18 := Lib.hid (HB17.out.trans (hb.mono HB17.out.size))
          clear hb HB17
          go_wp2_with fail
          go_ret
          exact ⟨rfl, HB18.out⟩
end Go.Proofs.Ytcgegaahdbnacaa
