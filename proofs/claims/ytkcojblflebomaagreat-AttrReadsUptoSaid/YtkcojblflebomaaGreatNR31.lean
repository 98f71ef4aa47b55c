/-
  Several texts in one.
-/
import Derived.Test.YtkcojblflebomaaGreatNR30
import Derived.Test.YtkcojblflebomaaGreatNR23
set_option linter.unusedVariables false
set_option linter.unusedSimpArgs false
namespace Go.Proofs.YtkcojblflebomaaGreat
open Go.RowKit Go.MapKept Go.Shelf
open Go.Lib hiding intOf
open Go.Sort hiding Below

/-- what a list read of bytes is answered as -/
def RcPost {α : Type} (base : Nat) (T : TypeId) (C : Nat) (F : α → List Value) : Option (List α) → World → Ending → Prop
  | none, w', e => ∃ n : Int, e = .returned (.tuple #[.slice none 0 0, .int .i64 n]) ∧ (n = 3 ∨ n = 4)
  | some l, w', e => ∃ v, e = .returned (.tuple #[v, .int .i64 0]) ∧ OwnL w' base T C F v l
theorem readC_none {α : Type} [DecidableEq α] {S : Nat} {one : ByteArray → α} {lt : α → α → Bool} {v : ByteArray} (h : v.size = 0 ∨ v.size % S ≠ 0) : readC S one lt v = none := if_pos h
theorem readC_long {α : Type} [DecidableEq α] {S : Nat} {one : ByteArray → α} {lt : α → α → Bool} {v : ByteArray} (h0 : v.size ≠ 0) (h1 : v.size % S = 0) (h : 64 < (dd (srt lt (oneN S one (v.size / S) v))).length) : readC S one lt v = none := by
  unfold readC
  rw [if_neg (by omega), if_pos h]
theorem readC_some {α : Type} [DecidableEq α] {S : Nat} {one : ByteArray → α} {lt : α → α → Bool} {v : ByteArray} (h0 : v.size ≠ 0) (h1 : v.size % S = 0) (h : ¬ 64 < (dd (srt lt (oneN S one (v.size / S) v))).length) : readC S one lt v = some (dd (srt lt (oneN S one (v.size / S) v))) := by
  unfold readC
  rw [if_neg (by omega), if_neg h]
set_option maxRecDepth 100000 in
set_option maxHeartbeats 16000000 in
theorem cread_u32 (s : ByteArray) (w : World) (hm : (s.size : Int) ≤ 140737488351232) :
    Calls Tryz.prog 112 #[.string s, .int .i64 4, .func (.func 57) #[] #[], .func (.func 113) #[] #[]] w fun e w' => RcPost (w.heap.size + 1) 35 1 u1 (readC 4 (fun s => hd s 4) ltN s) w' e ∧ Below w.heap.size w w' := by
  have HNEW := Lib.hid new_any
  have HLE := Lib.hid left_any
  have HON : Hid (∀ (b : Nat) (t : ByteArray) (W : World), RdAt W b t → 4 ≤ t.size → (t.size : Int) ≤ 140737488351232 → Calls Tryz.prog 113 #[.pointer (some ⟨b, 0, none⟩)] W fun e w' => e = .returned (.int .u32 (hd t 4 : Nat)) ∧ RdAt w' b (nx t 4) ∧ W.grownBy w' (some b)) := fun b t W h1 h2 h3 => one4 b t W h1 h2 h3
  have HSO := Lib.hid sort_u32
  have HCU := Lib.hid cut_u32
  obtain ⟨i0, hi, hz0, hz1, hz2⟩ := info_parts infoU32
  have HI := Lib.hid hi
  have HZ0 := Lib.hid hz0
  have HZ1 := Lib.hid hz1
  have HZ2 := Lib.hid hz2
  have z0 := bytes_none s
  obtain ⟨q0, hq0⟩ : ∃ q, q = (s.size == 0) := ⟨_, rfl⟩
  rw [← hq0] at z0
  clear hi hz0 hz1 hz2
  by_cases hb0 : s.size = 0
  · have HT : Hid (readC 4 (fun s => hd s 4) ltN s = none) := readC_none (.inl hb0)
    obtain rfl : q0 = true := by rw [hq0, hb0]; rfl
    clear hq0 hb0
    go_enter Tryz.func112, Tryz.ntmps112
    go_wp2_with fail
    go_ret2
    refine ⟨?_, Below.refl _ _⟩
    rw [HT.out]
    exact ⟨4, rfl, .inr rfl⟩
  obtain rfl : q0 = false := by rw [hq0]; exact beq_eq_false_iff_ne.2 hb0
  clear hq0
  by_cases hb1 : s.size % 4 = 0
  case neg =>
    have HT : Hid (readC 4 (fun s => hd s 4) ltN s = none) := readC_none (.inr hb1)
    have z1 : ((s.size : Int) % 4 != 0) = true := bne_iff_ne.2 (by omega)
    have z1' : ((s.size : Int) % 4 == 0) = false := beq_eq_false_iff_ne.2 (by omega)
    have z2 : ((s.size : Int).tmod 4 != 0) = true := by rw [Int.tmod_eq_emod_of_nonneg (by omega)]; exact z1
    have z2' : ((s.size : Int).tmod 4 == 0) = false := by rw [Int.tmod_eq_emod_of_nonneg (by omega)]; exact z1'
    clear hb1
    go_enter Tryz.func112, Tryz.ntmps112
    go_wp2_with fail
    go_ret2
    refine ⟨?_, Below.refl _ _⟩
    rw [HT.out]
    exact ⟨4, rfl, .inr rfl⟩
  have z1 : ((s.size : Int) % 4 != 0) = false := by
    have : (s.size : Int) % 4 = 0 := by omega
    rw [this]
    rfl
  have z1' : ((s.size : Int) % 4 == 0) = true := beq_iff_eq.2 (by omega)
  have z2 : ((s.size : Int).tmod 4 != 0) = false := by rw [Int.tmod_eq_emod_of_nonneg (by omega)]; exact z1
  have z2' : ((s.size : Int).tmod 4 == 0) = true := by rw [Int.tmod_eq_emod_of_nonneg (by omega)]; exact z1'
  have HB0 := Lib.hid hb0
  have HB1 := Lib.hid hb1
  have HTL : Hid (64 < (dd (srt ltN (oneN 4 (fun s => hd s 4) (s.size / 4) s))).length → readC 4 (fun s => hd s 4) ltN s = none) := fun h => readC_long hb0 hb1 h
  have HTS : Hid (¬ 64 < (dd (srt ltN (oneN 4 (fun s => hd s 4) (s.size / 4) s))).length → readC 4 (fun s => hd s 4) ltN s = some (dd (srt ltN (oneN 4 (fun s => hd s 4) (s.size / 4) s)))) := fun h => readC_some hb0 hb1 h
  generalize readC 4 (fun s => hd s 4) ltN s = RES at HTL HTS ⊢
  clear hb1 hb0
  go_enter Tryz.func112, Tryz.ntmps112
  go_wp2_with fail
  refine (HNEW.out s w).mono ?_
  rintro e w1 ⟨rfl, hw1⟩
  have HR1 : Hid (RdAt w1 w.heap.size s) := by
    show RdAt _ _ _
    rw [hw1]
    exact heap_alloc_new w _
  have HBL1 : Hid (Below w.heap.size w w1) := by
    rw [hw1]
    exact (Below.refl _ _).alloc (Nat.le_refl _) _
  clear hw1
  go_wp2_with fail
  go_loopw [11] (fun ov wr => ∃ (k : Nat) (A : Option Addr) (cK : Nat), ov = .slice A k cK ∧ k * 4 ≤ s.size ∧ Hid (RdAt wr w.heap.size (nxN 4 k s)) ∧ Hid (OwnL wr (w.heap.size + 1) 35 1 u1 (.slice A k cK) (oneN 4 (fun s => hd s 4) k s)) ∧ Hid (Below w.heap.size w wr)) (fun _x wr => mRd wr w.heap.size)
  case atStart => exact ⟨0, none, 0, rfl, by omega, HR1.out, OwnL.nil _ _ _ _ _, HBL1.out⟩
  case round =>
    clear HR1 HBL1
    obtain ⟨k, A, cK, rfl, hk, HR, HOW, HBB⟩ := hrel
    have hrl := HR.out.lt
    have hts : (nxN 4 k s).size = s.size - k * 4 := nxN_size 4 k s
    have HNX := Lib.hid (nxN_succ 4 k s)
    have HAS := Lib.hid (oneN_succ 4 (fun s => hd s 4) k s)
    have HMR := Lib.hid (mRd_at HR.out)
    obtain ⟨t, ht⟩ : ∃ t, t = nxN 4 k s := ⟨_, rfl⟩
    rw [← ht] at HR hts HNX HAS HMR
    clear ht
    go_wp2_with fail
    refine (HLE.out w.heap.size t _ HR.out).mono ?_
    rintro e w2 ⟨rfl, rfl⟩
    by_cases hlt : k * 4 < s.size
    · have h4 : 4 ≤ t.size := by have := HB1.out; omega
      have h0 : (4 : Int) ≤ (t.size : Int) := by omega
      go_wp2_with fail
      refine (HON.out w.heap.size t _ HR.out h4 (by omega)).mono ?_
      rintro e w3 ⟨rfl, hr3, hg3⟩
      have HR3 : Hid (RdAt w3 w.heap.size (nx t 4)) := hr3
      have HOW3 : Hid (OwnL w3 (w.heap.size + 1) 35 1 u1 (.slice A k cK) (oneN 4 (fun s => hd s 4) k s)) := HOW.out.off hg3 (show CellsAt w2 w.heap.size #[.bool true, .string t] 110 from HR.out) (by decide)
      have HBB3 : Hid (Below w.heap.size w w3) := HBB.out.grown hg3 (by have := HBB.out.size; omega) (fun q hq => by cases hq; exact Nat.le_refl _)
      have hrl3 : w.heap.size < w3.heap.size := Nat.lt_of_lt_of_le hrl hg3.size
      have HSZ : Hid ((nx t 4).size = t.size - 4) := nx_size t 4
      have HMEAS : Hid (mRd w2 w.heap.size = t.size) := HMR.out
      obtain ⟨x, hx⟩ : ∃ x, x = hd t 4 := ⟨_, rfl⟩
      rw [← hx] at HAS ⊢
      clear hr3 hg3 hx HR HOW HBB HMR
      have HCB : Hid (CellsAt (w3.alloc (.cells #[.int .u32 (x : Nat)] 35)) w3.heap.size #[.int .u32 (x : Nat)] 35) := CellsAt.new _ _ _
      have HS := Lib.hid (Src.block (P := Tryz.prog) (t2 := 36) (size := 1) (m := 1) (c := 1) Tryz.underlying36 HCB.out rfl (by simp [Value.oneCell']))
      have HOa := Lib.hid (HOW3.out.alloc (.cells #[.int .u32 (x : Nat)] 35))
      have HBS : Hid (w.heap.size + 1 ≤ (w3.alloc (.cells #[.int .u32 (x : Nat)] 35)).heap.size) := by show _ ≤ _; simp; omega
      have HM : Hid (k + 1 ≤ maxLen) := by show _ ≤ _; unfold maxLen; omega
      have HY : Hid ((k + 1) * 4 ≤ 140737488355328) := by show _ ≤ _; omega
      have HOB : Hid (OwnM (w3.alloc (.cells #[.int .u32 (x : Nat)] 35)) (w.heap.size + 1) 35 1 (.slice A k cK) k ((oneN 4 (fun s => hd s 4) k s).flatMap u1)) := by
        have h := HOa.out
        unfold OwnL at h
        rwa [oneN_len] at h
      have HRa : Hid (RdAt (w3.alloc (.cells #[.int .u32 (x : Nat)] 35)) w.heap.size (nx t 4)) := (Below.heap_alloc _ _ _ HR3.out.lt).trans HR3.out
      have HBa : Hid (Below w.heap.size w (w3.alloc (.cells #[.int .u32 (x : Nat)] 35))) := HBB3.out.alloc (by omega) _
      go_wp2_with (at_builtin; refine wpList_append_m rfl (.tmp 27) (.tmp 31) 36 36 rfl (w.heap.size + 1) 35 i0 _ 1 4 Tryz.underlying36 HI.out HZ0.out HZ1.out HZ2.out rfl (by decide) (.slice A k cK) k ((oneN 4 (fun s => hd s 4) k s).flatMap u1) rfl HOB.out _ 1 _ rfl HS.out HM.out HY.out HBS.out ?_)
      intro v' w5 hown hgr hat
      obtain ⟨A6, c6, rfl⟩ := hown.form
      have hob : ∀ q, (Value.slice A k cK).ownBlock = some q → w.heap.size + 1 ≤ q := fun q hq => (OwnM.lt HOB.out q hq).1
      have HN5 : Hid (OwnL w5 (w.heap.size + 1) 35 1 u1 (.slice A6 (k + 1) c6) (oneN 4 (fun s => hd s 4) (k + 1) s)) := by
        show OwnL _ _ _ _ _ _ _
        rw [HAS.out]
        refine OwnL.snoc ?_
        rw [oneN_len]
        exact hown
      have HR5 : Hid (RdAt w5 w.heap.size (nxN 4 (k + 1) s)) := by
        show RdAt _ _ _
        rw [HNX.out]
        exact (hgr.block _ HRa.out.lt (fun e => by have := hob _ e.symm; omega)).trans HRa.out
      have HBB5 : Hid (Below w.heap.size w w5) := HBa.out.grown hgr (by simp; omega) (fun q hq => by have := hob _ hq; omega)
      clear hown hgr hat hob HOB HOa HRa HBa
      go_wp2_with fail
      refine ⟨⟨k + 1, A6, c6, rfl, by omega, HR5.out, HN5.out, HBB5.out⟩, ?_⟩
      show mRd _ _ < mRd _ _
      rw [mRd_at HR5.out, HMEAS.out, HNX.out, HSZ.out]
      omega
    · have hke : s.size / 4 = k := by have := HB1.out; omega
      have ht0 : ¬ (4 : Int) ≤ (t.size : Int) := by omega
      have HOWk := HOW
      rw [← hke] at HOWk
      have HKS : Hid (k ≤ 140737488351232) := by show k ≤ _; omega
      have HL1 : Hid ((srt ltN (oneN 4 (fun s => hd s 4) (s.size / 4) s)).length = k) := by show _ = _; rw [srt_len, oneN_len, hke]
      have HLD : Hid ((dd (srt ltN (oneN 4 (fun s => hd s 4) (s.size / 4) s))).length ≤ k) := by have := dd_len (srt ltN (oneN 4 (fun s => hd s 4) (s.size / 4) s)); have h2 := HL1.out; show _ ≤ _; omega
      have HOL : Hid (∃ L, L = oneN 4 (fun s => hd s 4) (s.size / 4) s ∧ L.length = k ∧ OwnL w2 (w.heap.size + 1) 35 1 u1 (.slice A k cK) L) := ⟨_, rfl, by rw [oneN_len]; exact hke, by rw [hke]; exact HOW.out⟩
      clear HOWk HOW hke HAS HNX HMR HR
      obtain ⟨L, hLe, hLk, hLo⟩ := HOL.out
      rw [← hLe] at HTL HTS HL1 HLD
      have HLO := Lib.hid hLo
      have HLK := Lib.hid hLk
      clear hLe hLk hLo HOL
      go_wp2_with fail
      refine (HSO.out _ (w.heap.size + 1) (.slice A k cK) L HLO.out (by rw [HLK.out]; have := HKS.out; omega)).mono ?_
      rintro e w6 ⟨rfl, ho6, hg6⟩
      have HO6 := Lib.hid ho6
      have HB6 : Hid (Below w.heap.size w w6) := OwnM.below_grown HLO.out hg6 HBB.out (by have := HBB.out.size; exact this) (by omega)
      clear ho6 hg6 HBB HLO
      go_wp2_with fail
      refine (HCU.out _ (w.heap.size + 1) (.slice A k cK) (srt ltN L) HO6.out (by rw [HL1.out]; have := HKS.out; omega)).mono ?_
      rintro e w7 ⟨v7, rfl, ho7, hg7, hv7⟩
      have HB7 : Hid (Below w.heap.size w w7) := OwnM.below_grown HO6.out hg7 HB6.out (by have := HB6.out.size; exact this) (by omega)
      obtain ⟨A7, c7, rfl⟩ := ho7.form
      have HO7 := Lib.hid ho7
      clear ho7 hg7 hv7 HB6 HO6
      by_cases h64 : 64 < (dd (srt ltN L)).length
      · have HRN := Lib.hid (HTL.out h64)
        obtain ⟨m, hmm⟩ : ∃ m, m = (dd (srt ltN L)).length := ⟨_, rfl⟩
        rw [← hmm] at h64 ⊢
        have h64' : (64 : Int) < (m : Int) := by omega
        clear HTL HTS HLD HO7 hmm
        go_wp2_with fail
        go_ret2
        refine ⟨?_, HB7.out⟩
        rw [HRN.out]
        exact ⟨3, rfl, .inl rfl⟩
      · have HRN := Lib.hid (HTS.out h64)
        have HOF : Hid (RES = some (dd (srt ltN L)) ∧ OwnL w7 (w.heap.size + 1) 35 1 u1 (.slice A7 (dd (srt ltN L)).length c7) (dd (srt ltN L))) := ⟨HRN.out, HO7.out⟩
        clear HTL HTS HLD HRN HO7
        generalize dd (srt ltN L) = D at h64 HOF ⊢
        obtain ⟨m, hmm⟩ : ∃ m, m = D.length := ⟨_, rfl⟩
        rw [← hmm] at h64 HOF ⊢
        have h64' : ¬ (64 : Int) < (m : Int) := by omega
        clear hmm
        go_wp2_with fail
        go_ret2
        refine ⟨?_, HB7.out⟩
        rw [HOF.out.1]
        exact ⟨_, rfl, HOF.out.2⟩
set_option maxRecDepth 100000 in
set_option maxHeartbeats 16000000 in
theorem cread_u64 (s : ByteArray) (w : World) (hm : (s.size : Int) ≤ 140737488351232) :
    Calls Tryz.prog 114 #[.string s, .int .i64 8, .func (.func 59) #[] #[], .func (.func 115) #[] #[]] w fun e w' => RcPost (w.heap.size + 1) 57 1 x1 (readC 8 (fun s => hd s 8) ltN s) w' e ∧ Below w.heap.size w w' := by
  have HNEW := Lib.hid new_any
  have HLE := Lib.hid left_any
  have HON : Hid (∀ (b : Nat) (t : ByteArray) (W : World), RdAt W b t → 8 ≤ t.size → (t.size : Int) ≤ 140737488351232 → Calls Tryz.prog 115 #[.pointer (some ⟨b, 0, none⟩)] W fun e w' => e = .returned (.int .u64 (hd t 8 : Nat)) ∧ RdAt w' b (nx t 8) ∧ W.grownBy w' (some b)) := fun b t W h1 h2 h3 => one8 b t W h1 h2 h3
  have HSO := Lib.hid sort_u64
  have HCU := Lib.hid cut_u64
  obtain ⟨i0, hi, hz0, hz1, hz2⟩ := info_parts infoU64
  have HI := Lib.hid hi
  have HZ0 := Lib.hid hz0
  have HZ1 := Lib.hid hz1
  have HZ2 := Lib.hid hz2
  have z0 := bytes_none s
  obtain ⟨q0, hq0⟩ : ∃ q, q = (s.size == 0) := ⟨_, rfl⟩
  rw [← hq0] at z0
  clear hi hz0 hz1 hz2
  by_cases hb0 : s.size = 0
  · have HT : Hid (readC 8 (fun s => hd s 8) ltN s = none) := readC_none (.inl hb0)
    obtain rfl : q0 = true := by rw [hq0, hb0]; rfl
    clear hq0 hb0
    go_enter Tryz.func114, Tryz.ntmps114
    go_wp2_with fail
    go_ret2
    refine ⟨?_, Below.refl _ _⟩
    rw [HT.out]
    exact ⟨4, rfl, .inr rfl⟩
  obtain rfl : q0 = false := by rw [hq0]; exact beq_eq_false_iff_ne.2 hb0
  clear hq0
  by_cases hb1 : s.size % 8 = 0
  case neg =>
    have HT : Hid (readC 8 (fun s => hd s 8) ltN s = none) := readC_none (.inr hb1)
    have z1 : ((s.size : Int) % 8 != 0) = true := bne_iff_ne.2 (by omega)
    have z1' : ((s.size : Int) % 8 == 0) = false := beq_eq_false_iff_ne.2 (by omega)
    have z2 : ((s.size : Int).tmod 8 != 0) = true := by rw [Int.tmod_eq_emod_of_nonneg (by omega)]; exact z1
    have z2' : ((s.size : Int).tmod 8 == 0) = false := by rw [Int.tmod_eq_emod_of_nonneg (by omega)]; exact z1'
    clear hb1
    go_enter Tryz.func114, Tryz.ntmps114
    go_wp2_with fail
    go_ret2
    refine ⟨?_, Below.refl _ _⟩
    rw [HT.out]
    exact ⟨4, rfl, .inr rfl⟩
  have z1 : ((s.size : Int) % 8 != 0) = false := by
    have : (s.size : Int) % 8 = 0 := by omega
    rw [this]
    rfl
  have z1' : ((s.size : Int) % 8 == 0) = true := beq_iff_eq.2 (by omega)
  have z2 : ((s.size : Int).tmod 8 != 0) = false := by rw [Int.tmod_eq_emod_of_nonneg (by omega)]; exact z1
  have z2' : ((s.size : Int).tmod 8 == 0) = true := by rw [Int.tmod_eq_emod_of_nonneg (by omega)]; exact z1'
  have HB0 := Lib.hid hb0
  have HB1 := Lib.hid hb1
  have HTL : Hid (64 < (dd (srt ltN (oneN 8 (fun s => hd s 8) (s.size / 8) s))).length → readC 8 (fun s => hd s 8) ltN s = none) := fun h => readC_long hb0 hb1 h
  have HTS : Hid (¬ 64 < (dd (srt ltN (oneN 8 (fun s => hd s 8) (s.size / 8) s))).length → readC 8 (fun s => hd s 8) ltN s = some (dd (srt ltN (oneN 8 (fun s => hd s 8) (s.size / 8) s)))) := fun h => readC_some hb0 hb1 h
  generalize readC 8 (fun s => hd s 8) ltN s = RES at HTL HTS ⊢
  clear hb1 hb0
  go_enter Tryz.func114, Tryz.ntmps114
  go_wp2_with fail
  refine (HNEW.out s w).mono ?_
  rintro e w1 ⟨rfl, hw1⟩
  have HR1 : Hid (RdAt w1 w.heap.size s) := by
    show RdAt _ _ _
    rw [hw1]
    exact heap_alloc_new w _
  have HBL1 : Hid (Below w.heap.size w w1) := by
    rw [hw1]
    exact (Below.refl _ _).alloc (Nat.le_refl _) _
  clear hw1
  go_wp2_with fail
  go_loopw [11] (fun ov wr => ∃ (k : Nat) (A : Option Addr) (cK : Nat), ov = .slice A k cK ∧ k * 8 ≤ s.size ∧ Hid (RdAt wr w.heap.size (nxN 8 k s)) ∧ Hid (OwnL wr (w.heap.size + 1) 57 1 x1 (.slice A k cK) (oneN 8 (fun s => hd s 8) k s)) ∧ Hid (Below w.heap.size w wr)) (fun _x wr => mRd wr w.heap.size)
  case atStart => exact ⟨0, none, 0, rfl, by omega, HR1.out, OwnL.nil _ _ _ _ _, HBL1.out⟩
  case round =>
    clear HR1 HBL1
    obtain ⟨k, A, cK, rfl, hk, HR, HOW, HBB⟩ := hrel
    have hrl := HR.out.lt
    have hts : (nxN 8 k s).size = s.size - k * 8 := nxN_size 8 k s
    have HNX := Lib.hid (nxN_succ 8 k s)
    have HAS := Lib.hid (oneN_succ 8 (fun s => hd s 8) k s)
    have HMR := Lib.hid (mRd_at HR.out)
    obtain ⟨t, ht⟩ : ∃ t, t = nxN 8 k s := ⟨_, rfl⟩
    rw [← ht] at HR hts HNX HAS HMR
    clear ht
    go_wp2_with fail
    refine (HLE.out w.heap.size t _ HR.out).mono ?_
    rintro e w2 ⟨rfl, rfl⟩
    by_cases hlt : k * 8 < s.size
    · have h4 : 8 ≤ t.size := by have := HB1.out; omega
      have h0 : (8 : Int) ≤ (t.size : Int) := by omega
      go_wp2_with fail
      refine (HON.out w.heap.size t _ HR.out h4 (by omega)).mono ?_
      rintro e w3 ⟨rfl, hr3, hg3⟩
      have HR3 : Hid (RdAt w3 w.heap.size (nx t 8)) := hr3
      have HOW3 : Hid (OwnL w3 (w.heap.size + 1) 57 1 x1 (.slice A k cK) (oneN 8 (fun s => hd s 8) k s)) := HOW.out.off hg3 (show CellsAt w2 w.heap.size #[.bool true, .string t] 110 from HR.out) (by decide)
      have HBB3 : Hid (Below w.heap.size w w3) := HBB.out.grown hg3 (by have := HBB.out.size; omega) (fun q hq => by cases hq; exact Nat.le_refl _)
      have hrl3 : w.heap.size < w3.heap.size := Nat.lt_of_lt_of_le hrl hg3.size
      have HSZ : Hid ((nx t 8).size = t.size - 8) := nx_size t 8
      have HMEAS : Hid (mRd w2 w.heap.size = t.size) := HMR.out
      obtain ⟨x, hx⟩ : ∃ x, x = hd t 8 := ⟨_, rfl⟩
      rw [← hx] at HAS ⊢
      clear hr3 hg3 hx HR HOW HBB HMR
      have HCB : Hid (CellsAt (w3.alloc (.cells #[.int .u64 (x : Nat)] 57)) w3.heap.size #[.int .u64 (x : Nat)] 57) := CellsAt.new _ _ _
      have HS := Lib.hid (Src.block (P := Tryz.prog) (t2 := 37) (size := 1) (m := 1) (c := 1) Tryz.underlying37 HCB.out rfl (by simp [Value.oneCell']))
      have HOa := Lib.hid (HOW3.out.alloc (.cells #[.int .u64 (x : Nat)] 57))
      have HBS : Hid (w.heap.size + 1 ≤ (w3.alloc (.cells #[.int .u64 (x : Nat)] 57)).heap.size) := by show _ ≤ _; simp; omega
      have HM : Hid (k + 1 ≤ maxLen) := by show _ ≤ _; unfold maxLen; omega
      have HY : Hid ((k + 1) * 8 ≤ 140737488355328) := by show _ ≤ _; omega
      have HOB : Hid (OwnM (w3.alloc (.cells #[.int .u64 (x : Nat)] 57)) (w.heap.size + 1) 57 1 (.slice A k cK) k ((oneN 8 (fun s => hd s 8) k s).flatMap x1)) := by
        have h := HOa.out
        unfold OwnL at h
        rwa [oneN_len] at h
      have HRa : Hid (RdAt (w3.alloc (.cells #[.int .u64 (x : Nat)] 57)) w.heap.size (nx t 8)) := (Below.heap_alloc _ _ _ HR3.out.lt).trans HR3.out
      have HBa : Hid (Below w.heap.size w (w3.alloc (.cells #[.int .u64 (x : Nat)] 57))) := HBB3.out.alloc (by omega) _
      go_wp2_with (at_builtin; refine wpList_append_m rfl (.tmp 27) (.tmp 31) 37 37 rfl (w.heap.size + 1) 57 i0 _ 1 8 Tryz.underlying37 HI.out HZ0.out HZ1.out HZ2.out rfl (by decide) (.slice A k cK) k ((oneN 8 (fun s => hd s 8) k s).flatMap x1) rfl HOB.out _ 1 _ rfl HS.out HM.out HY.out HBS.out ?_)
      intro v' w5 hown hgr hat
      obtain ⟨A6, c6, rfl⟩ := hown.form
      have hob : ∀ q, (Value.slice A k cK).ownBlock = some q → w.heap.size + 1 ≤ q := fun q hq => (OwnM.lt HOB.out q hq).1
      have HN5 : Hid (OwnL w5 (w.heap.size + 1) 57 1 x1 (.slice A6 (k + 1) c6) (oneN 8 (fun s => hd s 8) (k + 1) s)) := by
        show OwnL _ _ _ _ _ _ _
        rw [HAS.out]
        refine OwnL.snoc ?_
        rw [oneN_len]
        exact hown
      have HR5 : Hid (RdAt w5 w.heap.size (nxN 8 (k + 1) s)) := by
        show RdAt _ _ _
        rw [HNX.out]
        exact (hgr.block _ HRa.out.lt (fun e => by have := hob _ e.symm; omega)).trans HRa.out
      have HBB5 : Hid (Below w.heap.size w w5) := HBa.out.grown hgr (by simp; omega) (fun q hq => by have := hob _ hq; omega)
      clear hown hgr hat hob HOB HOa HRa HBa
      go_wp2_with fail
      refine ⟨⟨k + 1, A6, c6, rfl, by omega, HR5.out, HN5.out, HBB5.out⟩, ?_⟩
      show mRd _ _ < mRd _ _
      rw [mRd_at HR5.out, HMEAS.out, HNX.out, HSZ.out]
      omega
    · have hke : s.size / 8 = k := by have := HB1.out; omega
      have ht0 : ¬ (8 : Int) ≤ (t.size : Int) := by omega
      have HOWk := HOW
      rw [← hke] at HOWk
      have HKS : Hid (k ≤ 140737488351232) := by show k ≤ _; omega
      have HL1 : Hid ((srt ltN (oneN 8 (fun s => hd s 8) (s.size / 8) s)).length = k) := by show _ = _; rw [srt_len, oneN_len, hke]
      have HLD : Hid ((dd (srt ltN (oneN 8 (fun s => hd s 8) (s.size / 8) s))).length ≤ k) := by have := dd_len (srt ltN (oneN 8 (fun s => hd s 8) (s.size / 8) s)); have h2 := HL1.out; show _ ≤ _; omega
      have HOL : Hid (∃ L, L = oneN 8 (fun s => hd s 8) (s.size / 8) s ∧ L.length = k ∧ OwnL w2 (w.heap.size + 1) 57 1 x1 (.slice A k cK) L) := ⟨_, rfl, by rw [oneN_len]; exact hke, by rw [hke]; exact HOW.out⟩
      clear HOWk HOW hke HAS HNX HMR HR
      obtain ⟨L, hLe, hLk, hLo⟩ := HOL.out
      rw [← hLe] at HTL HTS HL1 HLD
      have HLO := Lib.hid hLo
      have HLK := Lib.hid hLk
      clear hLe hLk hLo HOL
      go_wp2_with fail
      refine (HSO.out _ (w.heap.size + 1) (.slice A k cK) L HLO.out (by rw [HLK.out]; have := HKS.out; omega)).mono ?_
      rintro e w6 ⟨rfl, ho6, hg6⟩
      have HO6 := Lib.hid ho6
      have HB6 : Hid (Below w.heap.size w w6) := OwnM.below_grown HLO.out hg6 HBB.out (by have := HBB.out.size; exact this) (by omega)
      clear ho6 hg6 HBB HLO
      go_wp2_with fail
      refine (HCU.out _ (w.heap.size + 1) (.slice A k cK) (srt ltN L) HO6.out (by rw [HL1.out]; have := HKS.out; omega)).mono ?_
      rintro e w7 ⟨v7, rfl, ho7, hg7, hv7⟩
      have HB7 : Hid (Below w.heap.size w w7) := OwnM.below_grown HO6.out hg7 HB6.out (by have := HB6.out.size; exact this) (by omega)
      obtain ⟨A7, c7, rfl⟩ := ho7.form
      have HO7 := Lib.hid ho7
      clear ho7 hg7 hv7 HB6 HO6
      by_cases h64 : 64 < (dd (srt ltN L)).length
      · have HRN := Lib.hid (HTL.out h64)
        obtain ⟨m, hmm⟩ : ∃ m, m = (dd (srt ltN L)).length := ⟨_, rfl⟩
        rw [← hmm] at h64 ⊢
        have h64' : (64 : Int) < (m : Int) := by omega
        clear HTL HTS HLD HO7 hmm
        go_wp2_with fail
        go_ret2
        refine ⟨?_, HB7.out⟩
        rw [HRN.out]
        exact ⟨3, rfl, .inl rfl⟩
      · have HRN := Lib.hid (HTS.out h64)
        have HOF : Hid (RES = some (dd (srt ltN L)) ∧ OwnL w7 (w.heap.size + 1) 57 1 x1 (.slice A7 (dd (srt ltN L)).length c7) (dd (srt ltN L))) := ⟨HRN.out, HO7.out⟩
        clear HTL HTS HLD HRN HO7
        generalize dd (srt ltN L) = D at h64 HOF ⊢
        obtain ⟨m, hmm⟩ : ∃ m, m = D.length := ⟨_, rfl⟩
        rw [← hmm] at h64 HOF ⊢
        have h64' : ¬ (64 : Int) < (m : Int) := by omega
        clear hmm
        go_wp2_with fail
        go_ret2
        refine ⟨?_, HB7.out⟩
        rw [HOF.out.1]
        exact ⟨_, rfl, HOF.out.2⟩
set_option maxRecDepth 100000 in
set_option maxHeartbeats 16000000 in
theorem cread_L (s : ByteArray) (w : World) (hm : (s.size : Int) ≤ 140737488351232) :
    Calls Tryz.prog 116 #[.string s, .int .i64 12, .func (.func 104) #[] #[], .func (.func 117) #[] #[]] w fun e w' => RcPost (w.heap.size + 1) 59 3 Lg.cs (readC 12 lg12 ltL s) w' e ∧ Below w.heap.size w w' := by
  have HNEW := Lib.hid new_any
  have HLE := Lib.hid left_any
  have HON : Hid (∀ (b : Nat) (t : ByteArray) (W : World), RdAt W b t → 12 ≤ t.size → (t.size : Int) ≤ 140737488351232 → Calls Tryz.prog 117 #[.pointer (some ⟨b, 0, none⟩)] W fun e w' => e = .returned (.agg #[.int .u32 ((lg12 t).g : Nat), .int .u32 ((lg12 t).a : Nat), .int .u32 ((lg12 t).b : Nat)]) ∧ RdAt w' b (nx t 12) ∧ W.grownBy w' (some b)) := fun b t W h1 h2 h3 => one12 b t W h1 h2 h3
  have HSO := Lib.hid sort_L
  have HCU := Lib.hid cut_L
  obtain ⟨i0, hi, hz0, hz1, hz2⟩ := info_parts infoLg
  have HI := Lib.hid hi
  have HZ0 := Lib.hid hz0
  have HZ1 := Lib.hid hz1
  have HZ2 := Lib.hid hz2
  have z0 := bytes_none s
  obtain ⟨q0, hq0⟩ : ∃ q, q = (s.size == 0) := ⟨_, rfl⟩
  rw [← hq0] at z0
  clear hi hz0 hz1 hz2
  by_cases hb0 : s.size = 0
  · have HT : Hid (readC 12 lg12 ltL s = none) := readC_none (.inl hb0)
    obtain rfl : q0 = true := by rw [hq0, hb0]; rfl
    clear hq0 hb0
    go_enter Tryz.func116, Tryz.ntmps116
    go_wp2_with fail
    go_ret2
    refine ⟨?_, Below.refl _ _⟩
    rw [HT.out]
    exact ⟨4, rfl, .inr rfl⟩
  obtain rfl : q0 = false := by rw [hq0]; exact beq_eq_false_iff_ne.2 hb0
  clear hq0
  by_cases hb1 : s.size % 12 = 0
  case neg =>
    have HT : Hid (readC 12 lg12 ltL s = none) := readC_none (.inr hb1)
    have z1 : ((s.size : Int) % 12 != 0) = true := bne_iff_ne.2 (by omega)
    have z1' : ((s.size : Int) % 12 == 0) = false := beq_eq_false_iff_ne.2 (by omega)
    have z2 : ((s.size : Int).tmod 12 != 0) = true := by rw [Int.tmod_eq_emod_of_nonneg (by omega)]; exact z1
    have z2' : ((s.size : Int).tmod 12 == 0) = false := by rw [Int.tmod_eq_emod_of_nonneg (by omega)]; exact z1'
    clear hb1
    go_enter Tryz.func116, Tryz.ntmps116
    go_wp2_with fail
    go_ret2
    refine ⟨?_, Below.refl _ _⟩
    rw [HT.out]
    exact ⟨4, rfl, .inr rfl⟩
  have z1 : ((s.size : Int) % 12 != 0) = false := by
    have : (s.size : Int) % 12 = 0 := by omega
    rw [this]
    rfl
  have z1' : ((s.size : Int) % 12 == 0) = true := beq_iff_eq.2 (by omega)
  have z2 : ((s.size : Int).tmod 12 != 0) = false := by rw [Int.tmod_eq_emod_of_nonneg (by omega)]; exact z1
  have z2' : ((s.size : Int).tmod 12 == 0) = true := by rw [Int.tmod_eq_emod_of_nonneg (by omega)]; exact z1'
  have HB0 := Lib.hid hb0
  have HB1 := Lib.hid hb1
  have HTL : Hid (64 < (dd (srt ltL (oneN 12 lg12 (s.size / 12) s))).length → readC 12 lg12 ltL s = none) := fun h => readC_long hb0 hb1 h
  have HTS : Hid (¬ 64 < (dd (srt ltL (oneN 12 lg12 (s.size / 12) s))).length → readC 12 lg12 ltL s = some (dd (srt ltL (oneN 12 lg12 (s.size / 12) s)))) := fun h => readC_some hb0 hb1 h
  generalize readC 12 lg12 ltL s = RES at HTL HTS ⊢
  clear hb1 hb0
  go_enter Tryz.func116, Tryz.ntmps116
  go_wp2_with fail
  refine (HNEW.out s w).mono ?_
  rintro e w1 ⟨rfl, hw1⟩
  have HR1 : Hid (RdAt w1 w.heap.size s) := by
    show RdAt _ _ _
    rw [hw1]
    exact heap_alloc_new w _
  have HBL1 : Hid (Below w.heap.size w w1) := by
    rw [hw1]
    exact (Below.refl _ _).alloc (Nat.le_refl _) _
  clear hw1
  go_wp2_with fail
  go_loopw [11] (fun ov wr => ∃ (k : Nat) (A : Option Addr) (cK : Nat), ov = .slice A k cK ∧ k * 12 ≤ s.size ∧ Hid (RdAt wr w.heap.size (nxN 12 k s)) ∧ Hid (OwnL wr (w.heap.size + 1) 59 3 Lg.cs (.slice A k cK) (oneN 12 lg12 k s)) ∧ Hid (Below w.heap.size w wr)) (fun _x wr => mRd wr w.heap.size)
  case atStart => exact ⟨0, none, 0, rfl, by omega, HR1.out, OwnL.nil _ _ _ _ _, HBL1.out⟩
  case round =>
    clear HR1 HBL1
    obtain ⟨k, A, cK, rfl, hk, HR, HOW, HBB⟩ := hrel
    have hrl := HR.out.lt
    have hts : (nxN 12 k s).size = s.size - k * 12 := nxN_size 12 k s
    have HNX := Lib.hid (nxN_succ 12 k s)
    have HAS := Lib.hid (oneN_succ 12 lg12 k s)
    have HMR := Lib.hid (mRd_at HR.out)
    obtain ⟨t, ht⟩ : ∃ t, t = nxN 12 k s := ⟨_, rfl⟩
    rw [← ht] at HR hts HNX HAS HMR
    clear ht
    go_wp2_with fail
    refine (HLE.out w.heap.size t _ HR.out).mono ?_
    rintro e w2 ⟨rfl, rfl⟩
    by_cases hlt : k * 12 < s.size
    · have h4 : 12 ≤ t.size := by have := HB1.out; omega
      have h0 : (12 : Int) ≤ (t.size : Int) := by omega
      go_wp2_with fail
      refine (HON.out w.heap.size t _ HR.out h4 (by omega)).mono ?_
      rintro e w3 ⟨rfl, hr3, hg3⟩
      have HR3 : Hid (RdAt w3 w.heap.size (nx t 12)) := hr3
      have HOW3 : Hid (OwnL w3 (w.heap.size + 1) 59 3 Lg.cs (.slice A k cK) (oneN 12 lg12 k s)) := HOW.out.off hg3 (show CellsAt w2 w.heap.size #[.bool true, .string t] 110 from HR.out) (by decide)
      have HBB3 : Hid (Below w.heap.size w w3) := HBB.out.grown hg3 (by have := HBB.out.size; omega) (fun q hq => by cases hq; exact Nat.le_refl _)
      have hrl3 : w.heap.size < w3.heap.size := Nat.lt_of_lt_of_le hrl hg3.size
      have HSZ : Hid ((nx t 12).size = t.size - 12) := nx_size t 12
      have HMEAS : Hid (mRd w2 w.heap.size = t.size) := HMR.out
      obtain ⟨x, hx⟩ : ∃ x, x = lg12 t := ⟨_, rfl⟩
      rw [← hx] at HAS ⊢
      clear hr3 hg3 hx HR HOW HBB HMR
      have HCB : Hid (CellsAt (w3.alloc (.cells #[.int .u32 (x.g : Nat), .int .u32 (x.a : Nat), .int .u32 (x.b : Nat)] 59)) w3.heap.size #[.int .u32 (x.g : Nat), .int .u32 (x.a : Nat), .int .u32 (x.b : Nat)] 59) := CellsAt.new _ _ _
      have HS := Lib.hid (Src.block (P := Tryz.prog) (t2 := 38) (size := 3) (m := 1) (c := 1) Tryz.underlying38 HCB.out rfl (by simp [Value.oneCell']))
      have HOa := Lib.hid (HOW3.out.alloc (.cells #[.int .u32 (x.g : Nat), .int .u32 (x.a : Nat), .int .u32 (x.b : Nat)] 59))
      have HBS : Hid (w.heap.size + 1 ≤ (w3.alloc (.cells #[.int .u32 (x.g : Nat), .int .u32 (x.a : Nat), .int .u32 (x.b : Nat)] 59)).heap.size) := by show _ ≤ _; simp; omega
      have HM : Hid (k + 1 ≤ maxLen) := by show _ ≤ _; unfold maxLen; omega
      have HY : Hid ((k + 1) * 12 ≤ 140737488355328) := by show _ ≤ _; omega
      have HOB : Hid (OwnM (w3.alloc (.cells #[.int .u32 (x.g : Nat), .int .u32 (x.a : Nat), .int .u32 (x.b : Nat)] 59)) (w.heap.size + 1) 59 3 (.slice A k cK) k ((oneN 12 lg12 k s).flatMap Lg.cs)) := by
        have h := HOa.out
        unfold OwnL at h
        rwa [oneN_len] at h
      have HRa : Hid (RdAt (w3.alloc (.cells #[.int .u32 (x.g : Nat), .int .u32 (x.a : Nat), .int .u32 (x.b : Nat)] 59)) w.heap.size (nx t 12)) := (Below.heap_alloc _ _ _ HR3.out.lt).trans HR3.out
      have HBa : Hid (Below w.heap.size w (w3.alloc (.cells #[.int .u32 (x.g : Nat), .int .u32 (x.a : Nat), .int .u32 (x.b : Nat)] 59))) := HBB3.out.alloc (by omega) _
      go_wp2_with (at_builtin; refine wpList_append_m rfl (.tmp 27) (.tmp 31) 38 38 rfl (w.heap.size + 1) 59 i0 _ 3 12 Tryz.underlying38 HI.out HZ0.out HZ1.out HZ2.out rfl (by decide) (.slice A k cK) k ((oneN 12 lg12 k s).flatMap Lg.cs) rfl HOB.out _ 1 _ rfl HS.out HM.out HY.out HBS.out ?_)
      intro v' w5 hown hgr hat
      obtain ⟨A6, c6, rfl⟩ := hown.form
      have hob : ∀ q, (Value.slice A k cK).ownBlock = some q → w.heap.size + 1 ≤ q := fun q hq => (OwnM.lt HOB.out q hq).1
      have HN5 : Hid (OwnL w5 (w.heap.size + 1) 59 3 Lg.cs (.slice A6 (k + 1) c6) (oneN 12 lg12 (k + 1) s)) := by
        show OwnL _ _ _ _ _ _ _
        rw [HAS.out]
        refine OwnL.snoc ?_
        rw [oneN_len]
        exact hown
      have HR5 : Hid (RdAt w5 w.heap.size (nxN 12 (k + 1) s)) := by
        show RdAt _ _ _
        rw [HNX.out]
        exact (hgr.block _ HRa.out.lt (fun e => by have := hob _ e.symm; omega)).trans HRa.out
      have HBB5 : Hid (Below w.heap.size w w5) := HBa.out.grown hgr (by simp; omega) (fun q hq => by have := hob _ hq; omega)
      clear hown hgr hat hob HOB HOa HRa HBa
      go_wp2_with fail
      refine ⟨⟨k + 1, A6, c6, rfl, by omega, HR5.out, HN5.out, HBB5.out⟩, ?_⟩
      show mRd _ _ < mRd _ _
      rw [mRd_at HR5.out, HMEAS.out, HNX.out, HSZ.out]
      omega
    · have hke : s.size / 12 = k := by have := HB1.out; omega
      have ht0 : ¬ (12 : Int) ≤ (t.size : Int) := by omega
      have HOWk := HOW
      rw [← hke] at HOWk
      have HKS : Hid (k ≤ 140737488351232) := by show k ≤ _; omega
      have HL1 : Hid ((srt ltL (oneN 12 lg12 (s.size / 12) s)).length = k) := by show _ = _; rw [srt_len, oneN_len, hke]
      have HLD : Hid ((dd (srt ltL (oneN 12 lg12 (s.size / 12) s))).length ≤ k) := by have := dd_len (srt ltL (oneN 12 lg12 (s.size / 12) s)); have h2 := HL1.out; show _ ≤ _; omega
      have HOL : Hid (∃ L, L = oneN 12 lg12 (s.size / 12) s ∧ L.length = k ∧ OwnL w2 (w.heap.size + 1) 59 3 Lg.cs (.slice A k cK) L) := ⟨_, rfl, by rw [oneN_len]; exact hke, by rw [hke]; exact HOW.out⟩
      clear HOWk HOW hke HAS HNX HMR HR
      obtain ⟨L, hLe, hLk, hLo⟩ := HOL.out
      rw [← hLe] at HTL HTS HL1 HLD
      have HLO := Lib.hid hLo
      have HLK := Lib.hid hLk
      clear hLe hLk hLo HOL
      go_wp2_with fail
      refine (HSO.out _ (w.heap.size + 1) (.slice A k cK) L HLO.out (by rw [HLK.out]; have := HKS.out; omega)).mono ?_
      rintro e w6 ⟨rfl, ho6, hg6⟩
      have HO6 := Lib.hid ho6
      have HB6 : Hid (Below w.heap.size w w6) := OwnM.below_grown HLO.out hg6 HBB.out (by have := HBB.out.size; exact this) (by omega)
      clear ho6 hg6 HBB HLO
      go_wp2_with fail
      refine (HCU.out _ (w.heap.size + 1) (.slice A k cK) (srt ltL L) HO6.out (by rw [HL1.out]; have := HKS.out; omega)).mono ?_
      rintro e w7 ⟨v7, rfl, ho7, hg7, hv7⟩
      have HB7 : Hid (Below w.heap.size w w7) := OwnM.below_grown HO6.out hg7 HB6.out (by have := HB6.out.size; exact this) (by omega)
      obtain ⟨A7, c7, rfl⟩ := ho7.form
      have HO7 := Lib.hid ho7
      clear ho7 hg7 hv7 HB6 HO6
      by_cases h64 : 64 < (dd (srt ltL L)).length
      · have HRN := Lib.hid (HTL.out h64)
        obtain ⟨m, hmm⟩ : ∃ m, m = (dd (srt ltL L)).length := ⟨_, rfl⟩
        rw [← hmm] at h64 ⊢
        have h64' : (64 : Int) < (m : Int) := by omega
        clear HTL HTS HLD HO7 hmm
        go_wp2_with fail
        go_ret2
        refine ⟨?_, HB7.out⟩
        rw [HRN.out]
        exact ⟨3, rfl, .inl rfl⟩
      · have HRN := Lib.hid (HTS.out h64)
        have HOF : Hid (RES = some (dd (srt ltL L)) ∧ OwnL w7 (w.heap.size + 1) 59 3 Lg.cs (.slice A7 (dd (srt ltL L)).length c7) (dd (srt ltL L))) := ⟨HRN.out, HO7.out⟩
        clear HTL HTS HLD HRN HO7
        generalize dd (srt ltL L) = D at h64 HOF ⊢
        obtain ⟨m, hmm⟩ : ∃ m, m = D.length := ⟨_, rfl⟩
        rw [← hmm] at h64 HOF ⊢
        have h64' : ¬ (64 : Int) < (m : Int) := by omega
        clear hmm
        go_wp2_with fail
        go_ret2
        refine ⟨?_, HB7.out⟩
        rw [HOF.out.1]
        exact ⟨_, rfl, HOF.out.2⟩
end Go.Proofs.YtkcojblflebomaaGreat
