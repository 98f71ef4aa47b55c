/-
  Contracts of heraldref01.Size, Apart, Bit, May. Conditions: sizes.
-/
import Derived.Test.YthnjepehiddogaaPrimD
import Derived.LoopTactic
set_option linter.unusedVariables false
set_option linter.unusedSimpArgs false
namespace Go.Proofs.Ythnjepehiddogaa
open Go.RowKit

def apB (f : Int) : Bool := decide (4 ≤ f)
theorem fam_five {f : Int} (h1 : 1 ≤ f) (h2 : f ≤ 5) : f = 1 ∨ f = 2 ∨ f = 3 ∨ f = 4 ∨ f = 5 := by omega
theorem rap_any (f : Int) (w : World) (h1 : 1 ≤ f) (h2 : f ≤ 5) : Calls Try.prog 40 #[.int .i64 f] w fun e w' => e = .returned (.bool (apB f)) ∧ w' = w := by
  rcases fam_five h1 h2 with rfl | rfl | rfl | rfl | rfl
  all_goals
    go_enter Try.func40, Try.ntmps40
    go_wp2
    go_ret
    exact ⟨rfl, rfl⟩

theorem rsize_any (f : Int) (w : World) : Calls Try.prog 39 #[.int .i64 f] w fun e w' => e = .returned (.int .i64 (famSize f)) ∧ w' = w := by
  by_cases h1 : f = 1
  · subst h1
    go_enter Try.func39, Try.ntmps39
    go_wp2
    go_ret
    exact ⟨rfl, rfl⟩
  by_cases h2 : f = 2
  · subst h2
    go_enter Try.func39, Try.ntmps39
    go_wp2
    go_ret
    exact ⟨rfl, rfl⟩
  by_cases h3 : f = 3
  · subst h3
    go_enter Try.func39, Try.ntmps39
    go_wp2
    go_ret
    exact ⟨rfl, rfl⟩
  by_cases h4 : f = 4
  · subst h4
    go_enter Try.func39, Try.ntmps39
    go_wp2
    go_ret
    exact ⟨rfl, rfl⟩
  by_cases h5 : f = 5
  · subst h5
    go_enter Try.func39, Try.ntmps39
    go_wp2
    go_ret
    exact ⟨rfl, rfl⟩
  have e1 : (f == 1) = false := by rw [beq_eq_false_iff_ne]; exact h1
  have e2 : (f == 2) = false := by rw [beq_eq_false_iff_ne]; exact h2
  have e3 : (f == 3) = false := by rw [beq_eq_false_iff_ne]; exact h3
  have e4 : (f == 4) = false := by rw [beq_eq_false_iff_ne]; exact h4
  have e5 : (f == 5) = false := by rw [beq_eq_false_iff_ne]; exact h5
  have hr : Hid (famSize f = 0) := by
    show _ = _
    unfold famSize
    rw [if_neg (by omega), if_neg (by omega)]
  clear h1 h2 h3 h4 h5
  go_enter Try.func39, Try.ntmps39
  go_wp2
  go_ret
  exact ⟨ret_int hr.out.symm, rfl⟩

theorem famSize_five {f : Int} (h : famSize f ≠ 0) : 1 ≤ f ∧ f ≤ 5 := by
  unfold famSize at h
  split at h
  · omega
  · split at h
    · omega
    · exact absurd rfl h


/-- a bit of an address -/
def bitV (b : ByteArray) (n : Nat) : Nat := (b.data.toList.getD (n / 8) 0).toNat / 2 ^ (7 - n % 8) % 2

theorem mval_bits (x : UInt8) (L : Int) : mval x L = x ↔ ∀ t : Nat, t < 8 → L ≤ t → x.toNat / 2 ^ (7 - t) % 2 = 0 := by
  have key : ∀ (y : Fin 256) (M : Fin 9), (mval (UInt8.ofNat y.val) (M.val : Int) = UInt8.ofNat y.val) ↔ ∀ t : Fin 8, M.val ≤ t.val → (UInt8.ofNat y.val).toNat / 2 ^ (7 - t.val) % 2 = 0 := by decide +kernel
  have hx : UInt8.ofNat x.toNat = x := by simp
  have k := key ⟨x.toNat, x.toNat_lt⟩
  simp only [hx] at k
  by_cases h0 : L ≤ 0
  · have e : mval x L = mval x ((0 : Nat) : Int) := by unfold mval; rw [if_pos h0, if_pos (by omega)]
    rw [e, k ⟨0, by omega⟩]
    exact ⟨fun h t ht _ => h ⟨t, ht⟩ (by simp), fun h t _ => h t.val t.isLt (by omega)⟩
  · by_cases h8 : L < 8
    · have e : (L : Int) = ((L.toNat : Nat) : Int) := by omega
      have := k ⟨L.toNat, by omega⟩
      rw [← e] at this
      rw [this]
      exact ⟨fun h t ht hl => h ⟨t, ht⟩ (by show L.toNat ≤ t; omega), fun h t hl => h t.val t.isLt (by have : L.toNat ≤ t.val := hl; omega)⟩
    · refine ⟨fun _ t ht hl => by omega, fun _ => ?_⟩
      unfold mval
      rw [if_neg h0, if_neg h8]

theorem maskB_bits (b : ByteArray) (N : Int) : maskB b N = b ↔ ∀ i : Nat, N ≤ i → i < 8 * b.size → bitV b i = 0 := by
  have hl : b.data.toList.length = b.size := by rw [Array.length_toList]; rfl
  have h1 : maskB b N = b ↔ maskK b.data.toList N b.size = b.data.toList := by
    constructor
    · intro h
      have := congrArg (fun x : ByteArray => x.data.toList) h
      simpa [maskB] using this
    · intro h
      unfold maskB
      rw [h]
  rw [h1]
  have h2 : maskK b.data.toList N b.size = b.data.toList ↔ ∀ j (hj : j < b.data.toList.length), mval b.data.toList[j] (N - 8 * (j : Int)) = b.data.toList[j] := by
    constructor
    · intro h j hj
      have := congrArg (fun l : List UInt8 => l[j]?) h
      simp only [maskK, List.getElem?_mapIdx, List.getElem?_eq_getElem hj, Option.map_some, Option.some.injEq] at this
      rw [if_pos (by omega)] at this
      exact this
    · intro h
      apply List.ext_getElem?
      intro j
      by_cases hj : j < b.data.toList.length
      · simp only [maskK, List.getElem?_mapIdx, List.getElem?_eq_getElem hj, Option.map_some, Option.some.injEq]
        rw [if_pos (by omega)]
        exact h j hj
      · rw [List.getElem?_eq_none (by simp [maskK]; omega), List.getElem?_eq_none (by omega)]
  rw [h2]
  constructor
  · intro h i hN hi
    have hj : i / 8 < b.data.toList.length := by omega
    have := (mval_bits _ _).1 (h (i / 8) hj) (i % 8) (by omega) (by omega)
    unfold bitV
    rw [List.getD_eq_getElem?_getD, List.getElem?_eq_getElem hj]
    exact this
  · intro h j hj
    refine (mval_bits _ _).2 fun t ht hl => ?_
    have := h (8 * j + t) (by omega) (by omega)
    unfold bitV at this
    rw [show (8 * j + t) / 8 = j by omega, show (8 * j + t) % 8 = t by omega, List.getD_eq_getElem?_getD, List.getElem?_eq_getElem hj] at this
    exact this

theorem bit_and (x : UInt8) (s : Nat) (h : s < 8) : bits .and .i64 (wrap64 ((x.toNat : Int) / 2 ^ s)) 1 = ((x.toNat / 2 ^ s % 2 : Nat) : Int) := by
  have key : ∀ (y : Fin 256) (t : Fin 8), bits .and .i64 (wrap64 ((y.val : Int) / 2 ^ t.val)) 1 = ((y.val / 2 ^ t.val % 2 : Nat) : Int) := by decide +kernel
  exact key ⟨x.toNat, x.toNat_lt⟩ ⟨s, h⟩

theorem bit_any (b : ByteArray) (n : Nat) (w : World) (hn : n / 8 < b.size) (hs : b.size ≤ 1000000) : Calls Try.prog 41 #[.string b, .int .i64 n] w fun e w' => e = .returned (.int .i64 (bitV b n)) ∧ w' = w := by
  obtain ⟨q, hq⟩ : ∃ q : Nat, q = n / 8 := ⟨_, rfl⟩
  obtain ⟨s, hs2⟩ : ∃ s : Nat, s = 7 - n % 8 := ⟨_, rfl⟩
  have d8 : (n : Int) / 8 = (q : Int) := by omega
  have d7 : (7 : Int) - (n : Int) % 8 = (s : Int) := by omega
  have hn' : q < b.size := by omega
  have hb : Hid (bitV b n = (b[q]'hn').toNat / 2 ^ s % 2) := by
    show _ = _
    unfold bitV
    rw [← hq, ← hs2, List.getD_eq_getElem?_getD, List.getElem?_eq_getElem (by rw [Array.length_toList]; show q < b.size; omega)]
    rfl
  have hs' : s ≤ 7 := by omega
  clear hq hs2 hn
  have hx := (b[q]'hn').toNat_lt
  go_enter Try.func41, Try.ntmps41
  go_wp2_with fail
  go_ret
  exact ⟨ret_int (by rw [hb.out]; exact bit_and _ s (by omega)), rfl⟩


set_option maxRecDepth 100000 in
set_option maxHeartbeats 4000000 in
theorem rmay_any (fam rd : Int) (addr : ByteArray) (len : Int) (w : World) (ha : addr.size ≤ 9223372036854775807) :
    Calls Try.prog 26 #[.agg #[.int .i64 fam, .int .u64 rd, .string addr, .int .i64 len]] w fun e w' => e = .returned (.bool (decide (PrefOk fam rd addr len))) ∧ Below w.heap.size w w' := by
  have hin := famSize_in fam
  have bad : ¬ PrefOk fam rd addr len → decide (PrefOk fam rd addr len) = false := fun h => decide_eq_false h
  have HPS := Lib.hid (fun w => rsize_any fam w)
  by_cases c1 : famSize fam = 0
  · have hr := Lib.hid (bad (fun h => h.1 c1))
    clear bad
    rw [c1] at HPS
    clear c1 hin
    go_enter Try.func26, Try.ntmps26
    go_wp2_with fail
    refine (HPS.out _).mono ?_
    rintro e w1 ⟨rfl, rfl⟩
    go_wp2_with fail
    go_ret
    exact ⟨ret_bool hr.out.symm, by go_grown⟩
  have hfive := famSize_five c1
  have HAP := Lib.hid (fun w => rap_any fam w hfive.1 hfive.2)
  have e0 : (famSize fam == 0) = false := by rw [beq_eq_false_iff_ne]; exact c1
  by_cases c2 : (addr.size : Int) = famSize fam
  · have e2 : ((addr.size : Int) == famSize fam) = true := by rw [beq_iff_eq]; exact c2
    have e2' : ((addr.size : Int) != famSize fam) = false := by rw [bne, e2]; rfl
    by_cases c3 : len < 0
    · have hr := Lib.hid (bad (fun h => absurd h.2.2.1 (by omega)))
      clear bad c2
      generalize famSize fam = S at HPS e0 e2 e2' ⊢
      go_enter Try.func26, Try.ntmps26
      go_wp2_with fail
      refine (HPS.out _).mono ?_
      rintro e w1 ⟨rfl, rfl⟩
      go_wp2_with fail
      go_ret
      exact ⟨ret_bool hr.out.symm, by go_grown⟩
    by_cases c4 : 8 * famSize fam < len
    · have hr := Lib.hid (bad (fun h => absurd h.2.2.2.1 (by omega)))
      clear bad c2
      generalize famSize fam = S at *
      go_enter Try.func26, Try.ntmps26
      go_wp2_with fail
      refine (HPS.out _).mono ?_
      rintro e w1 ⟨rfl, rfl⟩
      go_wp2_with fail
      go_ret
      exact ⟨ret_bool hr.out.symm, by go_grown⟩
    by_cases c5 : rd = 0
    · have e5 : (rd == 0) = true := by rw [c5]; rfl
      have e5' : (rd != 0) = false := by rw [bne, e5]; rfl
      have hok : (∀ j : Nat, len ≤ j → j < 8 * addr.size → bitV addr j = 0) → decide (PrefOk fam rd addr len) = true := fun h => decide_eq_true ⟨c1, c2, by omega, by omega, Or.inl c5, (maskB_bits addr len).2 h⟩
      clear c1 c5
      have hno : ∀ j : Nat, len ≤ j → j < 8 * addr.size → bitV addr j ≠ 0 → decide (PrefOk fam rd addr len) = false := fun j h1 h2 h3 => bad (fun h => h3 ((maskB_bits addr len).1 h.2.2.2.2.2 j h1 h2))
      have HNO := Lib.hid hno
      have HOK := Lib.hid hok
      have hs0 : addr.size ≤ 1000000 := by omega
      have hbw : Hid (Below w.heap.size w (w.alloc (.cells #[.int .i64 fam, .int .u64 rd, .string addr, .int .i64 len] 30))) := by
        show Below _ _ _
        go_grown
      clear bad hno hok
      generalize famSize fam = S at *
      have d3 : ¬ len < 0 := c3
      go_enter Try.func26, Try.ntmps26
      go_wp2_with fail
      refine (HPS.out _).mono ?_
      rintro e w1 ⟨rfl, rfl⟩
      go_wp2_with fail
      go_loop [4] (fun i => ∃ k : Nat, len ≤ k ∧ (k : Int) ≤ 8 * S ∧ i = .int .i64 k ∧ Hid (∀ j : Nat, len ≤ j → j < k → bitV addr j = 0)) (fun i => (8 * S + 1 - intOf i).toNat)
      case atStart => exact ⟨len.toNat, by omega, by omega, by rw [show ((len.toNat : Nat) : Int) = len by omega], fun j h1 h2 => absurd h1 (by omega)⟩
      case round =>
        obtain ⟨k, hk1, hk2, rfl, HZ⟩ := hrel
        by_cases hlt : (k : Int) < 8 * S
        · have HB := Lib.hid (fun w => bit_any addr k w (by omega) hs0)
          by_cases hz : bitV addr k = 0
          · have HZ2 : Hid (∀ j : Nat, len ≤ j → j < k + 1 → bitV addr j = 0) := fun j h1 h2 => by
              by_cases hj : j = k
              · rw [hj]; exact hz
              · exact HZ.out j h1 (by omega)
            rw [hz] at HB
            clear hz HZ
            go_wp2_with fail
            refine (HB.out _).mono ?_
            rintro e w1 ⟨rfl, rfl⟩
            go_wp2_with fail
            exact ⟨⟨k + 1, by omega, by omega, by go_num, HZ2⟩, by simp [intOf]; omega⟩
          · have hr := Lib.hid (HNO.out k hk1 (by omega) hz)
            have z1 : (((bitV addr k : Nat) : Int) == 0) = false := by rw [beq_eq_false_iff_ne]; omega
            have z2 : (((bitV addr k : Nat) : Int) != 0) = true := by rw [bne, z1]; rfl
            clear hz HZ
            generalize bitV addr k = z at HB z1 z2
            go_wp2_with fail
            refine (HB.out _).mono ?_
            rintro e w1 ⟨rfl, rfl⟩
            go_wp2_with fail
            go_ret
            exact ⟨ret_bool hr.out.symm, hbw.out⟩
        · have hr := Lib.hid (HOK.out (fun j h1 h2 => HZ.out j h1 (by omega)))
          go_wp2_with fail
          go_ret
          exact ⟨ret_bool hr.out.symm, hbw.out⟩
    · have e5 : (rd == 0) = false := by rw [beq_eq_false_iff_ne]; exact c5
      have e5' : (rd != 0) = true := by rw [bne, e5]; rfl
      by_cases c6 : 4 ≤ fam
      · have hok : (∀ j : Nat, len ≤ j → j < 8 * addr.size → bitV addr j = 0) → decide (PrefOk fam rd addr len) = true := fun h => decide_eq_true ⟨c1, c2, by omega, by omega, Or.inr (by omega), (maskB_bits addr len).2 h⟩
        rw [show apB fam = true from decide_eq_true c6] at HAP
        clear c1 c6
        have hno : ∀ j : Nat, len ≤ j → j < 8 * addr.size → bitV addr j ≠ 0 → decide (PrefOk fam rd addr len) = false := fun j h1 h2 h3 => bad (fun h => h3 ((maskB_bits addr len).1 h.2.2.2.2.2 j h1 h2))
        have HNO := Lib.hid hno
        have HOK := Lib.hid hok
        have hs0 : addr.size ≤ 1000000 := by omega
        have hbw : Hid (Below w.heap.size w (w.alloc (.cells #[.int .i64 fam, .int .u64 rd, .string addr, .int .i64 len] 30))) := by
          show Below _ _ _
          go_grown
        clear bad hno hok
        generalize famSize fam = S at *
        have d3 : ¬ len < 0 := c3
        go_enter Try.func26, Try.ntmps26
        go_wp2_with fail
        refine (HPS.out _).mono ?_
        rintro e w1 ⟨rfl, rfl⟩
        go_wp2_with fail
        refine (HAP.out _).mono ?_
        rintro e w1 ⟨rfl, rfl⟩
        go_wp2_with fail
        go_loop [4] (fun i => ∃ k : Nat, len ≤ k ∧ (k : Int) ≤ 8 * S ∧ i = .int .i64 k ∧ Hid (∀ j : Nat, len ≤ j → j < k → bitV addr j = 0)) (fun i => (8 * S + 1 - intOf i).toNat)
        case atStart => exact ⟨len.toNat, by omega, by omega, by rw [show ((len.toNat : Nat) : Int) = len by omega], fun j h1 h2 => absurd h1 (by omega)⟩
        case round =>
          obtain ⟨k, hk1, hk2, rfl, HZ⟩ := hrel
          by_cases hlt : (k : Int) < 8 * S
          · have HB := Lib.hid (fun w => bit_any addr k w (by omega) hs0)
            by_cases hz : bitV addr k = 0
            · have HZ2 : Hid (∀ j : Nat, len ≤ j → j < k + 1 → bitV addr j = 0) := fun j h1 h2 => by
                by_cases hj : j = k
                · rw [hj]; exact hz
                · exact HZ.out j h1 (by omega)
              rw [hz] at HB
              clear hz HZ
              go_wp2_with fail
              refine (HB.out _).mono ?_
              rintro e w1 ⟨rfl, rfl⟩
              go_wp2_with fail
              exact ⟨⟨k + 1, by omega, by omega, by go_num, HZ2⟩, by simp [intOf]; omega⟩
            · have hr := Lib.hid (HNO.out k hk1 (by omega) hz)
              have z1 : (((bitV addr k : Nat) : Int) == 0) = false := by rw [beq_eq_false_iff_ne]; omega
              have z2 : (((bitV addr k : Nat) : Int) != 0) = true := by rw [bne, z1]; rfl
              clear hz HZ
              generalize bitV addr k = z at HB z1 z2
              go_wp2_with fail
              refine (HB.out _).mono ?_
              rintro e w1 ⟨rfl, rfl⟩
              go_wp2_with fail
              go_ret
              exact ⟨ret_bool hr.out.symm, hbw.out⟩
          · have hr := Lib.hid (HOK.out (fun j h1 h2 => HZ.out j h1 (by omega)))
            go_wp2_with fail
            go_ret
            exact ⟨ret_bool hr.out.symm, hbw.out⟩
      · have hr := Lib.hid (bad (fun h => h.2.2.2.2.1.elim c5 (by omega)))
        rw [show apB fam = false from decide_eq_false c6] at HAP
        clear bad c5 c6
        generalize famSize fam = S at *
        go_enter Try.func26, Try.ntmps26
        go_wp2_with fail
        refine (HPS.out _).mono ?_
        rintro e w1 ⟨rfl, rfl⟩
        go_wp2_with fail
        refine (HAP.out _).mono ?_
        rintro e w1 ⟨rfl, rfl⟩
        go_wp2_with fail
        go_ret
        exact ⟨ret_bool hr.out.symm, by go_grown⟩
  · have hr := Lib.hid (bad (fun h => c2 h.2.1))
    have e2 : ((addr.size : Int) == famSize fam) = false := by rw [beq_eq_false_iff_ne]; exact c2
    have e2' : ((addr.size : Int) != famSize fam) = true := by rw [bne, e2]; rfl
    clear bad c2
    generalize famSize fam = S at HPS e0 e2 e2' ⊢
    go_enter Try.func26, Try.ntmps26
    go_wp2_with fail
    refine (HPS.out _).mono ?_
    rintro e w1 ⟨rfl, rfl⟩
    go_wp2_with fail
    go_ret
    exact ⟨ret_bool hr.out.symm, by go_grown⟩

end Go.Proofs.Ythnjepehiddogaa
