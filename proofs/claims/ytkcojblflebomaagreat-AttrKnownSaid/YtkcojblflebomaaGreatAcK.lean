/-
  Communities laid: comm.larger, lay, Encode, EncodeExts, EncodeLarges. Conditions: sizes.
-/
import Derived.Test.YtkcojblflebomaaGreatAcJ
import Derived.Test.YtkcojblflebomaaGreatAaG
import Derived.StillTailTactics
import Derived.BigQuiet
import Derived.Deep.QuietTactic
set_option linter.unusedVariables false
set_option linter.unusedSimpArgs false
namespace Go.Proofs.YtkcojblflebomaaGreat
open Go.RowKit Go.MapKept Go.Shelf
open Go.Lib hiding intOf


set_option maxRecDepth 100000 in
set_option maxHeartbeats 8000000 in
theorem larger_any (x y : Lg) (w : World) : Calls Tryz.prog 104 #[.agg #[.int .u32 x.g, .int .u32 x.a, .int .u32 x.b], .agg #[.int .u32 y.g, .int .u32 y.a, .int .u32 y.b]] w fun e w' => e = .returned (.int .i64 (cmpL x y)) ∧ Below w.heap.size w w' := by
  have HCM := Lib.hid cmp_u32
  have HOR := Lib.hid or3_any
  have HX : Hid (CellsAt ((w.alloc (.cells #[.int .u32 x.g, .int .u32 x.a, .int .u32 x.b] 59)).alloc (.cells #[.int .u32 y.g, .int .u32 y.a, .int .u32 y.b] 59)) w.heap.size #[.int .u32 x.g, .int .u32 x.a, .int .u32 x.b] 59) := (CellsAt.new _ _ _).alloc _
  have HY : Hid (CellsAt ((w.alloc (.cells #[.int .u32 x.g, .int .u32 x.a, .int .u32 x.b] 59)).alloc (.cells #[.int .u32 y.g, .int .u32 y.a, .int .u32 y.b] 59)) (w.heap.size + 1) #[.int .u32 y.g, .int .u32 y.a, .int .u32 y.b] 59) := by
    have h := CellsAt.new (w.alloc (.cells #[.int .u32 x.g, .int .u32 x.a, .int .u32 x.b] 59)) #[.int .u32 y.g, .int .u32 y.a, .int .u32 y.b] 59
    rwa [show (w.alloc (.cells #[.int .u32 x.g, .int .u32 x.a, .int .u32 x.b] 59)).heap.size = w.heap.size + 1 by simp] at h
  have HB : Hid (Below w.heap.size w ((w.alloc (.cells #[.int .u32 x.g, .int .u32 x.a, .int .u32 x.b] 59)).alloc (.cells #[.int .u32 y.g, .int .u32 y.a, .int .u32 y.b] 59))) := ((Below.refl _ _).alloc (Nat.le_refl _) _).alloc (by simp) _
  have hcl : Hid (cmpL x y = orI (cmpI x.g y.g) (cmpI x.a y.a) (cmpI x.b y.b)) := rfl
  go_enter Tryz.func104, Tryz.ntmps104
  go_wp2_with fail
  generalize (w.alloc (.cells #[.int .u32 x.g, .int .u32 x.a, .int .u32 x.b] 59)).alloc (.cells #[.int .u32 y.g, .int .u32 y.a, .int .u32 y.b] 59) = W at HX HY HB ⊢
  have hlx := HX.out.lt
  have hly := HY.out.lt
  have hsW := HB.out.size
  obtain ⟨x0, x1, x2⟩ := HX.out.c3
  obtain ⟨y0, y1, y2⟩ := HY.out.c3
  have HCN : Hid (∀ (p q : Nat) (V : World), Calls Tryz.prog 57 #[.int .u32 p, .int .u32 q] V fun e w' => e = .returned (.int .i64 (cmpI p q)) ∧ w' = V) := fun p q V => (HCM.out p q V).mono fun e w' ⟨h1, h2⟩ => ⟨h1, h2.symm⟩
  go_still_tail 15, (by kernel_rfl)
  repeat still_step
  still_call (HCN.out x.g y.g _)
  repeat still_step
  still_call (HCN.out x.a y.a _)
  repeat still_step
  still_call (HCN.out x.b y.b _)
  repeat still_step
  refine wpStill_nil ?_
  change wpList _ _ _ _ _ W.drew
  clear x0 x1 x2 y0 y1 y2
  generalize cmpI x.g y.g = p at hcl ⊢
  generalize cmpI x.a y.a = q at hcl ⊢
  generalize cmpI x.b y.b = r at hcl ⊢
  have HBD : Hid (Below w.heap.size w W.drew) := below_drewN HB.out 1
  clear HB HX HY hlx hly
  generalize W.drew = V at HBD ⊢
  have hsV := HBD.out.size
  go_wp2_with fail
  refine (HOR.out V.heap.size _ p q r _ (CellsAt.new V _ 3)).mono ?_
  rintro e w1 ⟨rfl, rfl⟩
  go_wp2_with fail
  go_ret
  exact ⟨by rw [hcl.out]; rfl, HBD.out.alloc hsV _⟩
set_option maxRecDepth 100000 in
set_option maxHeartbeats 8000000 in
theorem lay_u32 (A : Option Addr) (cap : Nat) (l : List Nat) (w : World) (h : Rd w A 1 (nums .u32 l)) (hl : l.length ≤ cap) (hc : cap ≤ 9223372036854775807) (hf : ∀ n ∈ l, n < 4294967296) (hr : riseB ltN l = true) (h64 : l.length ≤ 64) :
    Calls Tryz.prog 98 #[.slice A l.length cap, .func (.func 57) #[] #[], .func (.func 99) #[] #[]] w fun e w' => e = .returned (.tuple #[.string (bts (wordsB l)), .int .i64 0]) ∧ Below w.heap.size w w' := by
  have HR := Lib.hid h
  have HF := Lib.hid hf
  have HRI := Lib.hid ((riseB_iff _ _).1 hr)
  have HCMP := Lib.hid cmp_u32
  have HONE := Lib.hid one_u32
  clear h hf hr
  go_enter Tryz.func98, Tryz.ntmps98
  go_wp2_with fail
  go_loopw [8, 16] (fun s i wr => ∃ k : Nat, k ≤ l.length ∧ s = .string (bts (wordsB (l.take k))) ∧ i = .int .i64 k ∧ Hid (Below w.heap.size w wr)) (fun _ i _ => l.length + 1 - (intOf i).toNat)
  case atStart => exact ⟨0, by omega, by simp [wordsB]; rfl, rfl, Below.refl _ _⟩
  case round =>
    obtain ⟨k, hk, rfl, rfl, HB⟩ := hrel
    by_cases hlt : k < l.length
    · obtain ⟨y, hy⟩ : ∃ y, l[k]? = some y := ⟨l[k], List.getElem?_eq_getElem hlt⟩
      have hyf := HF.out y (List.mem_of_getElem? hy)
      have HT := Lib.hid (words_take hy)
      have hbl : (wordsB (l.take k)).length + 100 ≤ 140737488355328 := by rw [words_len, List.length_take]; omega
      have HON : Hid (∀ W, Calls Tryz.prog 99 #[.string (bts (wordsB (l.take k))), .int .u32 (y : Nat)] W fun e w' => e = .returned (.string (bts (wordsB (l.take (k + 1))))) ∧ Below W.heap.size W w') := fun W => by
        rw [HT.out]
        exact HONE.out _ y hyf W hbl
      clear hbl
      generalize hs2 : bts (wordsB (l.take (k + 1))) = s2 at HON ⊢
      generalize bts (wordsB (l.take k)) = s1 at HON ⊢
      have HS2 := Lib.hid hs2
      clear hs2
      by_cases hk0 : k = 0
      · subst hk0
        obtain ⟨b, off, rfl, hb, q0⟩ := num_at (HR.out.below HB.out (Nat.le_refl _)) hy
        rw [Nat.add_zero] at q0
        clear hy HT
        go_wp2_with fail
        refine (HON.out _).mono ?_
        rintro e w2 ⟨rfl, hb2⟩
        have HB2 : Hid (Below w.heap.size w w2) := HB.out.trans (hb2.mono HB.out.size)
        clear hb2
        go_wp2_with fail
        exact ⟨⟨1, by omega, by rw [← HS2.out], by go_num, HB2.out⟩, by first | (simp [intOf]; done) | (simp [intOf]; omega)⟩
      · obtain ⟨j, rfl⟩ : ∃ j, k = j + 1 := ⟨k - 1, by omega⟩
        obtain ⟨x, hx⟩ : ∃ x, l[j]? = some x := ⟨l[j], List.getElem?_eq_getElem (by omega)⟩
        obtain ⟨b, off, rfl, hb, q0, q1⟩ := num_both (HR.out.below HB.out (Nat.le_refl _)) hx hy
        have hlt2 := HRI.out j x y hx hy
        have hjl : j < l.length := by omega
        have hj1 : ((j : Int) + 1) < (l.length : Int) := by omega
        have hj2 : (0 : Int) < (j : Int) + 1 := by omega
        have hv1 : IntKind.i64.wrap ((j : Int) + 1 - 1) = j := by rw [show (j : Int) + 1 - 1 = j by omega]; exact IntWalk.i64_in _ (by omega)
        have HC := Lib.hid (cmpI_neg x y)
        rw [hlt2] at HC
        have HCM := Lib.hid (HCMP.out x y)
        generalize cmpI x y = c at HC HCM
        have hd : decide (0 ≤ c) = false := HC.out
        have hd2 : ¬ (0 ≤ c) := of_decide_eq_false hd
        clear hx hy HT hlt2
        go_wp2_with fail
        refine (HCM.out _).mono ?_
        rintro e w1 ⟨rfl, rfl⟩
        have HB1 := HB
        skip
        go_wp2_with fail
        refine (HON.out _).mono ?_
        rintro e w2 ⟨rfl, hb2⟩
        have HB2 : Hid (Below w.heap.size w w2) := HB1.out.trans (hb2.mono HB1.out.size)
        clear hb2
        go_wp2_with fail
        exact ⟨⟨j + 1 + 1, by omega, by rw [← HS2.out], by go_num, HB2.out⟩, by simp [intOf]; omega⟩
    · obtain rfl : k = l.length := by omega
      rw [List.take_length]
      go_wp2_with fail
      go_ret2
      exact ⟨rfl, HB.out⟩
set_option maxRecDepth 100000 in
set_option maxHeartbeats 8000000 in
theorem lay_u64 (A : Option Addr) (cap : Nat) (l : List Nat) (w : World) (h : Rd w A 1 (nums .u64 l)) (hl : l.length ≤ cap) (hc : cap ≤ 9223372036854775807) (hf : ∀ n ∈ l, n < 18446744073709551616) (hr : riseB ltN l = true) (h64 : l.length ≤ 64) :
    Calls Tryz.prog 101 #[.slice A l.length cap, .func (.func 59) #[] #[], .func (.func 102) #[] #[]] w fun e w' => e = .returned (.tuple #[.string (bts (extsB l)), .int .i64 0]) ∧ Below w.heap.size w w' := by
  have HR := Lib.hid h
  have HF := Lib.hid hf
  have HRI := Lib.hid ((riseB_iff _ _).1 hr)
  have HCMP := Lib.hid cmp_u64
  have HONE := Lib.hid one_u64
  clear h hf hr
  go_enter Tryz.func101, Tryz.ntmps101
  go_wp2_with fail
  go_loopw [8, 16] (fun s i wr => ∃ k : Nat, k ≤ l.length ∧ s = .string (bts (extsB (l.take k))) ∧ i = .int .i64 k ∧ Hid (Below w.heap.size w wr)) (fun _ i _ => l.length + 1 - (intOf i).toNat)
  case atStart => exact ⟨0, by omega, by simp [extsB]; rfl, rfl, Below.refl _ _⟩
  case round =>
    obtain ⟨k, hk, rfl, rfl, HB⟩ := hrel
    by_cases hlt : k < l.length
    · obtain ⟨y, hy⟩ : ∃ y, l[k]? = some y := ⟨l[k], List.getElem?_eq_getElem hlt⟩
      have hyf := HF.out y (List.mem_of_getElem? hy)
      have HT := Lib.hid (exts_take hy)
      have hbl : (extsB (l.take k)).length + 100 ≤ 140737488355328 := by rw [exts_len, List.length_take]; omega
      have HON : Hid (∀ W, Calls Tryz.prog 102 #[.string (bts (extsB (l.take k))), .int .u64 (y : Nat)] W fun e w' => e = .returned (.string (bts (extsB (l.take (k + 1))))) ∧ Below W.heap.size W w') := fun W => by
        rw [HT.out]
        exact HONE.out _ y hyf W hbl
      clear hbl
      generalize hs2 : bts (extsB (l.take (k + 1))) = s2 at HON ⊢
      generalize bts (extsB (l.take k)) = s1 at HON ⊢
      have HS2 := Lib.hid hs2
      clear hs2
      by_cases hk0 : k = 0
      · subst hk0
        obtain ⟨b, off, rfl, hb, q0⟩ := num_at (HR.out.below HB.out (Nat.le_refl _)) hy
        rw [Nat.add_zero] at q0
        clear hy HT
        go_wp2_with fail
        refine (HON.out _).mono ?_
        rintro e w2 ⟨rfl, hb2⟩
        have HB2 : Hid (Below w.heap.size w w2) := HB.out.trans (hb2.mono HB.out.size)
        clear hb2
        go_wp2_with fail
        exact ⟨⟨1, by omega, by rw [← HS2.out], by go_num, HB2.out⟩, by first | (simp [intOf]; done) | (simp [intOf]; omega)⟩
      · obtain ⟨j, rfl⟩ : ∃ j, k = j + 1 := ⟨k - 1, by omega⟩
        obtain ⟨x, hx⟩ : ∃ x, l[j]? = some x := ⟨l[j], List.getElem?_eq_getElem (by omega)⟩
        obtain ⟨b, off, rfl, hb, q0, q1⟩ := num_both (HR.out.below HB.out (Nat.le_refl _)) hx hy
        have hlt2 := HRI.out j x y hx hy
        have hjl : j < l.length := by omega
        have hj1 : ((j : Int) + 1) < (l.length : Int) := by omega
        have hj2 : (0 : Int) < (j : Int) + 1 := by omega
        have hv1 : IntKind.i64.wrap ((j : Int) + 1 - 1) = j := by rw [show (j : Int) + 1 - 1 = j by omega]; exact IntWalk.i64_in _ (by omega)
        have HC := Lib.hid (cmpI_neg x y)
        rw [hlt2] at HC
        have HCM := Lib.hid (HCMP.out x y)
        generalize cmpI x y = c at HC HCM
        have hd : decide (0 ≤ c) = false := HC.out
        have hd2 : ¬ (0 ≤ c) := of_decide_eq_false hd
        clear hx hy HT hlt2
        go_wp2_with fail
        refine (HCM.out _).mono ?_
        rintro e w1 ⟨rfl, rfl⟩
        have HB1 := HB
        skip
        go_wp2_with fail
        refine (HON.out _).mono ?_
        rintro e w2 ⟨rfl, hb2⟩
        have HB2 : Hid (Below w.heap.size w w2) := HB1.out.trans (hb2.mono HB1.out.size)
        clear hb2
        go_wp2_with fail
        exact ⟨⟨j + 1 + 1, by omega, by rw [← HS2.out], by go_num, HB2.out⟩, by simp [intOf]; omega⟩
    · obtain rfl : k = l.length := by omega
      rw [List.take_length]
      go_wp2_with fail
      go_ret2
      exact ⟨rfl, HB.out⟩
set_option maxRecDepth 100000 in
set_option maxHeartbeats 8000000 in
theorem lay_L (A : Option Addr) (cap : Nat) (l : List Lg) (w : World) (h : Rd w A 3 (l.map Lg.cs)) (hl : l.length ≤ cap) (hc : cap ≤ 9223372036854775807) (hf : ∀ x ∈ l, x.g < 4294967296 ∧ x.a < 4294967296 ∧ x.b < 4294967296) (hr : riseB ltL l = true) (h64 : l.length ≤ 64) :
    Calls Tryz.prog 103 #[.slice A l.length cap, .func (.func 104) #[] #[], .func (.func 105) #[] #[]] w fun e w' => e = .returned (.tuple #[.string (bts (largesB l)), .int .i64 0]) ∧ Below w.heap.size w w' := by
  have HR := Lib.hid h
  have HF := Lib.hid hf
  have HRI := Lib.hid ((riseB_iff _ _).1 hr)
  have HCMP := Lib.hid larger_any
  have HONE := Lib.hid one_L
  clear h hf hr
  go_enter Tryz.func103, Tryz.ntmps103
  go_wp2_with fail
  go_loopw [8, 16] (fun s i wr => ∃ k : Nat, k ≤ l.length ∧ s = .string (bts (largesB (l.take k))) ∧ i = .int .i64 k ∧ Hid (Below w.heap.size w wr)) (fun _ i _ => l.length + 1 - (intOf i).toNat)
  case atStart => exact ⟨0, by omega, by simp [largesB]; rfl, rfl, Below.refl _ _⟩
  case round =>
    obtain ⟨k, hk, rfl, rfl, HB⟩ := hrel
    by_cases hlt : k < l.length
    · obtain ⟨y, hy⟩ : ∃ y, l[k]? = some y := ⟨l[k], List.getElem?_eq_getElem hlt⟩
      have hyf := HF.out y (List.mem_of_getElem? hy)
      have HT := Lib.hid (lgs_take hy)
      have hbl : (largesB (l.take k)).length + 100 ≤ 140737488355328 := by rw [lgs_len, List.length_take]; omega
      have HON : Hid (∀ W, Calls Tryz.prog 105 #[.string (bts (largesB (l.take k))), .agg #[.int .u32 (y.g : Nat), .int .u32 (y.a : Nat), .int .u32 (y.b : Nat)]] W fun e w' => e = .returned (.string (bts (largesB (l.take (k + 1))))) ∧ Below W.heap.size W w') := fun W => by
        rw [HT.out]
        exact HONE.out _ y hyf W hbl
      clear hbl
      generalize hs2 : bts (largesB (l.take (k + 1))) = s2 at HON ⊢
      generalize bts (largesB (l.take k)) = s1 at HON ⊢
      have HS2 := Lib.hid hs2
      clear hs2
      by_cases hk0 : k = 0
      · subst hk0
        obtain ⟨b, off, rfl, hb, q0, q1, q2⟩ := lg_at (HR.out.below HB.out (Nat.le_refl _)) hy
        rw [Nat.zero_mul, Nat.add_zero] at q0 q1 q2
        clear hy HT
        have HCY : Hid (CellsAt (wr.alloc (.cells #[.int .u32 (y.g : Nat), .int .u32 (y.a : Nat), .int .u32 (y.b : Nat)] 59)) wr.heap.size #[.int .u32 (y.g : Nat), .int .u32 (y.a : Nat), .int .u32 (y.b : Nat)] 59) := CellsAt.new _ _ _
        have HBV : Hid (Below w.heap.size w (wr.alloc (.cells #[.int .u32 (y.g : Nat), .int .u32 (y.a : Nat), .int .u32 (y.b : Nat)] 59))) := HB.out.alloc HB.out.size _
        go_wp2_with fail
        clear q0 q1 q2
        generalize (wr.alloc (.cells #[.int .u32 (y.g : Nat), .int .u32 (y.a : Nat), .int .u32 (y.b : Nat)] 59)) = V at HCY HBV ⊢
        generalize hg : wr.heap.size = g at HCY ⊢
        clear hg
        obtain ⟨q0, q1, q2⟩ := HCY.out.c3
        go_quiet (fail)
        go_wp2_with fail
        refine (HON.out _).mono ?_
        rintro e w2 ⟨rfl, hb2⟩
        have HBD : Hid (Below w.heap.size w (V.drewN nq)) := below_drewN HBV.out _
        have HB2 : Hid (Below w.heap.size w w2) := HBD.out.trans (hb2.mono HBD.out.size)
        clear hb2
        go_wp2_with fail
        exact ⟨⟨1, by omega, by rw [← HS2.out], by go_num, HB2.out⟩, by first | (simp [intOf]; done) | (simp [intOf]; omega)⟩
      · obtain ⟨j, rfl⟩ : ∃ j, k = j + 1 := ⟨k - 1, by omega⟩
        obtain ⟨x, hx⟩ : ∃ x, l[j]? = some x := ⟨l[j], List.getElem?_eq_getElem (by omega)⟩
        obtain ⟨b, off, rfl, hb, ⟨p0, p1, p2⟩, ⟨q0, q1, q2⟩⟩ := lg_both (HR.out.below HB.out (Nat.le_refl _)) hx hy
        have hlt2 := HRI.out j x y hx hy
        have hjl : j < l.length := by omega
        have hj1 : ((j : Int) + 1) < (l.length : Int) := by omega
        have hj2 : (0 : Int) < (j : Int) + 1 := by omega
        have hv1 : IntKind.i64.wrap ((j : Int) + 1 - 1) = j := by rw [show (j : Int) + 1 - 1 = j by omega]; exact IntWalk.i64_in _ (by omega)
        have HC := Lib.hid (cmpL_neg x y)
        rw [hlt2] at HC
        have HCM := Lib.hid (HCMP.out x y)
        generalize cmpL x y = c at HC HCM
        have hd : decide (0 ≤ c) = false := HC.out
        have hd2 : ¬ (0 ≤ c) := of_decide_eq_false hd
        clear hx hy HT hlt2
        have HCY : Hid (CellsAt (wr.alloc (.cells #[.int .u32 (y.g : Nat), .int .u32 (y.a : Nat), .int .u32 (y.b : Nat)] 59)) wr.heap.size #[.int .u32 (y.g : Nat), .int .u32 (y.a : Nat), .int .u32 (y.b : Nat)] 59) := CellsAt.new _ _ _
        have HBV : Hid (Below w.heap.size w (wr.alloc (.cells #[.int .u32 (y.g : Nat), .int .u32 (y.a : Nat), .int .u32 (y.b : Nat)] 59))) := HB.out.alloc HB.out.size _
        have HLX : Hid (LgAt (wr.alloc (.cells #[.int .u32 (y.g : Nat), .int .u32 (y.a : Nat), .int .u32 (y.b : Nat)] 59)) b (off + j * 3) x) := LgAt.below ⟨p0, p1, p2⟩ ((Below.refl _ _).alloc (Nat.le_refl _) _) hb
        have HLB : Hid (b < (wr.alloc (.cells #[.int .u32 (y.g : Nat), .int .u32 (y.a : Nat), .int .u32 (y.b : Nat)] 59)).heap.size) := by show _ < _; simp; omega
        have hv0 : IntKind.i64.wrap (j : Int) = j := IntWalk.i64_in _ (by omega)
        have hkl : (j : Int) < (l.length : Int) := by omega
        have hk1 : 0 ≤ (j : Int) + 1 := by omega
        go_wp2_with fail
        clear q0 q1 q2 p0 p1 p2 hb
        generalize (wr.alloc (.cells #[.int .u32 (y.g : Nat), .int .u32 (y.a : Nat), .int .u32 (y.b : Nat)] 59)) = V at HCY HBV HLX HLB ⊢
        generalize hg : wr.heap.size = g at HCY ⊢
        clear hg
        refine wp_region_held_drew (S := fun w' => LgAt w' b (off + j * 3) x ∧ CellsAt w' g #[.int .u32 (y.g : Nat), .int .u32 (y.a : Nat), .int .u32 (y.b : Nat)] 59 ∧ b < w'.heap.size ∧ Below w.heap.size w w') (by kernel_rfl) (⟨HLX.out.below (below_drewN (Below.refl _ _) 1) HLB.out, HCY.out.drew 1, HLB.out, below_drewN HBV.out 1⟩) (fun hHeld => ?_)
        refine wpAnyH_take (i := 0) (oi := { dst := some 21, op := Op.move (Operand.tmp 9), type := 3, pos := "comm.go:52", after := #[], guard := none }) (v := ?_) rfl (by kernel_rfl) (by kernel_rfl) (by kernel_rfl) (fun _ _ _ h => h) (Or.inl ⟨by rfl, ?_⟩) hHeld ?_
        rotate_left
        · intro w hSw
          clear hSw
          go_simp
          try with_reducible rfl
        try simp only [Act.put, List.setIfInBounds_toArray, List.set_cons_zero, List.set_cons_succ]
        refine wpAnyH_take (i := 1) (oi := { dst := some 22, op := Op.binOp BinOp.gtr 3 (Operand.tmp 21) (Operand.const (Value.int IntKind.i64 0)) 3, type := 4, pos := "comm.go:52", after := #[{ on := 0, ground := Ground.data }], guard := none }) (v := ?_) rfl (by kernel_rfl) (by kernel_rfl) (by kernel_rfl) (fun _ _ _ h => h) (Or.inl ⟨by rfl, ?_⟩) hHeld ?_
        rotate_left
        · intro w hSw
          clear hSw
          go_simp
          try with_reducible rfl
        try simp only [Act.put, List.setIfInBounds_toArray, List.set_cons_zero, List.set_cons_succ]
        refine wpAnyH_take (i := 2) (oi := { dst := some 23, op := Op.move (Operand.tmp 22), type := 4, pos := "comm.go:52", after := #[{ on := 1, ground := Ground.data }], guard := none }) (v := ?_) rfl (by kernel_rfl) (by kernel_rfl) (by kernel_rfl) (fun _ _ _ h => h) (Or.inl ⟨by rfl, ?_⟩) hHeld ?_
        rotate_left
        · intro w hSw
          clear hSw
          go_simp
          try with_reducible rfl
        try simp only [Act.put, List.setIfInBounds_toArray, List.set_cons_zero, List.set_cons_succ]
        refine wpAnyH_take (i := 3) (oi := { dst := some 24, op := Op.move (Operand.tmp 1), type := 101, pos := "comm.go:52", after := #[{ on := 2, ground := Ground.guard }], guard := some (2, true) }) (v := ?_) rfl (by kernel_rfl) (by kernel_rfl) (by kernel_rfl) (fun _ _ _ h => h) (Or.inl ⟨by rfl, ?_⟩) hHeld ?_
        rotate_left
        · intro w hSw
          clear hSw
          go_simp
          try with_reducible rfl
        try simp only [Act.put, List.setIfInBounds_toArray, List.set_cons_zero, List.set_cons_succ]
        refine wpAnyH_take (i := 4) (oi := { dst := some 25, op := Op.move (Operand.tmp 0), type := 38, pos := "comm.go:52", after := #[{ on := 2, ground := Ground.guard }], guard := some (2, true) }) (v := ?_) rfl (by kernel_rfl) (by kernel_rfl) (by kernel_rfl) (fun _ _ _ h => h) (Or.inl ⟨by rfl, ?_⟩) hHeld ?_
        rotate_left
        · intro w hSw
          clear hSw
          go_simp
          try with_reducible rfl
        try simp only [Act.put, List.setIfInBounds_toArray, List.set_cons_zero, List.set_cons_succ]
        refine wpAnyH_take (i := 5) (oi := { dst := some 26, op := Op.move (Operand.tmp 9), type := 3, pos := "comm.go:52", after := #[{ on := 2, ground := Ground.guard }], guard := some (2, true) }) (v := ?_) rfl (by kernel_rfl) (by kernel_rfl) (by kernel_rfl) (fun _ _ _ h => h) (Or.inl ⟨by rfl, ?_⟩) hHeld ?_
        rotate_left
        · intro w hSw
          clear hSw
          go_simp
          try with_reducible rfl
        try simp only [Act.put, List.setIfInBounds_toArray, List.set_cons_zero, List.set_cons_succ]
        refine wpAnyH_take (i := 6) (oi := { dst := some 27, op := Op.binOp BinOp.sub 3 (Operand.tmp 26) (Operand.const (Value.int IntKind.i64 1)) 3, type := 3, pos := "comm.go:52", after := #[{ on := 5, ground := Ground.data }, { on := 2, ground := Ground.guard }], guard := some (2, true) }) (v := ?_) rfl (by kernel_rfl) (by kernel_rfl) (by kernel_rfl) (fun _ _ _ h => h) (Or.inl ⟨by rfl, ?_⟩) hHeld ?_
        rotate_left
        · intro w hSw
          clear hSw
          go_simp
          try with_reducible rfl
        try simp only [Act.put, List.setIfInBounds_toArray, List.set_cons_zero, List.set_cons_succ]
        refine wpAnyH_take (i := 7) (oi := { dst := some 28, op := Op.indexAddr 38 (Operand.tmp 25) (Operand.tmp 27), type := 0, pos := "comm.go:52", after := #[{ on := 4, ground := Ground.data }, { on := 6, ground := Ground.data }, { on := 2, ground := Ground.guard }], guard := some (2, true) }) (v := ?_) rfl (by kernel_rfl) (by kernel_rfl) (by kernel_rfl) (fun _ _ _ h => h) (Or.inl ⟨by rfl, ?_⟩) hHeld ?_
        rotate_left
        · intro w hSw
          clear hSw
          go_simp
          try with_reducible rfl
        try simp only [Act.put, List.setIfInBounds_toArray, List.set_cons_zero, List.set_cons_succ]
        refine wpAnyH_take (i := 8) (oi := { dst := some 29, op := Op.load 59 (Operand.tmp 28), type := 59, pos := "comm.go:52", after := #[{ on := 7, ground := Ground.data }, { on := 2, ground := Ground.guard }], guard := some (2, true) }) (v := ?_) rfl (by kernel_rfl) (by kernel_rfl) (by kernel_rfl) (fun _ _ _ h => h) (Or.inl ⟨by rfl, ?_⟩) hHeld ?_
        rotate_left
        · intro w hSw
          obtain ⟨⟨s0, s1, s2⟩, hcy, _, _⟩ := hSw
          obtain ⟨t0, t1, t2⟩ := hcy.c3
          go_simp
          try with_reducible rfl
        try simp only [Act.put, List.setIfInBounds_toArray, List.set_cons_zero, List.set_cons_succ]
        refine wpAnyH_take (i := 9) (oi := { dst := some 30, op := Op.load 59 (Operand.tmp 10), type := 59, pos := "comm.go:52", after := #[{ on := 2, ground := Ground.guard }], guard := some (2, true) }) (v := ?_) rfl (by kernel_rfl) (by kernel_rfl) (by kernel_rfl) (fun _ _ _ h => h) (Or.inl ⟨by rfl, ?_⟩) hHeld ?_
        rotate_left
        · intro w hSw
          obtain ⟨⟨s0, s1, s2⟩, hcy, _, _⟩ := hSw
          obtain ⟨t0, t1, t2⟩ := hcy.c3
          go_simp
          try with_reducible rfl
        try simp only [Act.put, List.setIfInBounds_toArray, List.set_cons_zero, List.set_cons_succ]
        refine wpAnyH_ready (rs := [10]) (by kernel_rfl) (by simp) ?_
        refine AllReadyH.cons (o := { dst := some 31, op := Op.call { callee := Callee.value (Operand.tmp 24), args := #[Operand.tmp 29, Operand.tmp 30], argTypes := #[59, 59] }, type := 3, pos := "comm.go:52", after := #[{ on := 3, ground := Ground.data }, { on := 8, ground := Ground.data }, { on := 9, ground := Ground.data }, { on := 2, ground := Ground.chain }, { on := 2, ground := Ground.guard }], guard := some (2, true) }) rfl (fun K hK => ?_) AllReadyH.nil
        go_simp
        refine (HCM.out _).mono ?_
        rintro e w1 ⟨rfl, hb1⟩
        have HS1 := Lib.hid hHeld
        refine hK.out _ _ (⟨HS1.out.1.below hb1 HS1.out.2.2.1, HS1.out.2.1.below hb1 HS1.out.2.1.lt, Nat.lt_of_lt_of_le HS1.out.2.2.1 hb1.size, HS1.out.2.2.2.trans (hb1.mono HS1.out.2.2.2.size)⟩) (fun hHeld => ?_)
        clear hK K
        try simp only [Act.put, List.setIfInBounds_toArray, List.set_cons_zero, List.set_cons_succ]
        refine wpAnyH_take (i := 11) (oi := { dst := some 32, op := Op.binOp BinOp.geq 3 (Operand.tmp 31) (Operand.const (Value.int IntKind.i64 0)) 3, type := 4, pos := "comm.go:52", after := #[{ on := 10, ground := Ground.data }, { on := 2, ground := Ground.guard }], guard := some (2, true) }) (v := ?_) rfl (by kernel_rfl) (by kernel_rfl) (by kernel_rfl) (fun _ _ _ h => h) (Or.inl ⟨by rfl, ?_⟩) hHeld ?_
        rotate_left
        · intro w hSw
          clear hSw
          go_simp
          try with_reducible rfl
        try simp only [Act.put, List.setIfInBounds_toArray, List.set_cons_zero, List.set_cons_succ]
        refine wpAnyH_take (i := 12) (oi := { dst := some 33, op := Op.pick (Operand.tmp 23) (Operand.tmp 32) (Operand.const (Value.bool false)), type := 4, pos := "comm.go:52", after := #[{ on := 2, ground := Ground.data }, { on := 11, ground := Ground.data }], guard := none }) (v := ?_) rfl (by kernel_rfl) (by kernel_rfl) (by kernel_rfl) (fun _ _ _ h => h) (Or.inl ⟨by rfl, ?_⟩) hHeld ?_
        rotate_left
        · intro w hSw
          clear hSw
          go_simp
          try with_reducible rfl
        try simp only [Act.put, List.setIfInBounds_toArray, List.set_cons_zero, List.set_cons_succ]
        refine wpAnyH_done (by kernel_rfl) ?_ _
        have HE := Lib.hid hHeld
        clear hHeld hv0 hv1 hkl
        obtain ⟨q0, q1, q2⟩ := HE.out.2.1.c3
        go_wp2_with fail
        refine (HON.out _).mono ?_
        rintro e w2 ⟨rfl, hb2⟩
        have HB2 : Hid (Below w.heap.size w w2) := HE.out.2.2.2.trans (hb2.mono HE.out.2.2.2.size)
        clear hb2
        go_wp2_with fail
        exact ⟨⟨j + 1 + 1, by omega, by rw [← HS2.out], by go_num, HB2.out⟩, by simp [intOf]; omega⟩
    · obtain rfl : k = l.length := by omega
      rw [List.take_length]
      go_wp2_with fail
      go_ret2
      exact ⟨rfl, HB.out⟩
theorem enc_u32 (A : Option Addr) (cap : Nat) (l : List Nat) (w : World) (h : Rd w A 1 (nums .u32 l)) (hl : l.length ≤ cap) (hc : cap ≤ 9223372036854775807) (hf : ∀ n ∈ l, n < 4294967296) (hr : riseB ltN l = true) (h64 : l.length ≤ 64) :
    Calls Tryz.prog 52 #[.slice A l.length cap] w fun e w' => e = .returned (.tuple #[.string (bts (wordsB l)), .int .i64 0]) ∧ Below w.heap.size w w' := by
  have HL := Lib.hid (lay_u32 A cap l w h hl hc hf hr h64)
  clear h hf hr
  go_enter Tryz.func52, Tryz.ntmps52
  go_wp2_with fail
  refine HL.out.mono ?_
  rintro e w1 ⟨rfl, hb⟩
  have HB := Lib.hid hb
  clear hb
  go_wp2_with fail
  go_ret2
  exact ⟨rfl, HB.out⟩
theorem enc_u64 (A : Option Addr) (cap : Nat) (l : List Nat) (w : World) (h : Rd w A 1 (nums .u64 l)) (hl : l.length ≤ cap) (hc : cap ≤ 9223372036854775807) (hf : ∀ n ∈ l, n < 18446744073709551616) (hr : riseB ltN l = true) (h64 : l.length ≤ 64) :
    Calls Tryz.prog 53 #[.slice A l.length cap] w fun e w' => e = .returned (.tuple #[.string (bts (extsB l)), .int .i64 0]) ∧ Below w.heap.size w w' := by
  have HL := Lib.hid (lay_u64 A cap l w h hl hc hf hr h64)
  clear h hf hr
  go_enter Tryz.func53, Tryz.ntmps53
  go_wp2_with fail
  refine HL.out.mono ?_
  rintro e w1 ⟨rfl, hb⟩
  have HB := Lib.hid hb
  clear hb
  go_wp2_with fail
  go_ret2
  exact ⟨rfl, HB.out⟩
theorem enc_L (A : Option Addr) (cap : Nat) (l : List Lg) (w : World) (h : Rd w A 3 (l.map Lg.cs)) (hl : l.length ≤ cap) (hc : cap ≤ 9223372036854775807) (hf : ∀ x ∈ l, x.g < 4294967296 ∧ x.a < 4294967296 ∧ x.b < 4294967296) (hr : riseB ltL l = true) (h64 : l.length ≤ 64) :
    Calls Tryz.prog 54 #[.slice A l.length cap] w fun e w' => e = .returned (.tuple #[.string (bts (largesB l)), .int .i64 0]) ∧ Below w.heap.size w w' := by
  have HL := Lib.hid (lay_L A cap l w h hl hc hf hr h64)
  clear h hf hr
  go_enter Tryz.func54, Tryz.ntmps54
  go_wp2_with fail
  refine HL.out.mono ?_
  rintro e w1 ⟨rfl, hb⟩
  have HB := Lib.hid hb
  clear hb
  go_wp2_with fail
  go_ret2
  exact ⟨rfl, HB.out⟩
/-- what lays the communities of attributes that may be -/
theorem enc_spec {a : Atr} (hok : atOk a.c = true) : EncSpec a := by
  unfold atOk at hok
  simp only [Bool.and_eq_true] at hok
  have hL := hok.2
  unfold listsOk at hL
  simp only [Bool.and_eq_true, decide_eq_true_eq] at hL
  obtain ⟨⟨⟨_, hm1, hm2⟩, hx1, hx2⟩, hl1, hl2⟩ := hL
  exact ⟨fun W h => enc_u32 a.mA a.mC a.comms W h.mrd h.mlen h.mcap h.mfit hm1 hm2, fun W h => enc_u64 a.xA a.xC a.exts W h.xrd h.xlen h.xcap h.xfit hx1 hx2, fun W h => enc_L a.lA a.lC a.larges W h.lrd h.llen h.lcap h.lfit hl1 hl2⟩
end Go.Proofs.YtkcojblflebomaaGreat
