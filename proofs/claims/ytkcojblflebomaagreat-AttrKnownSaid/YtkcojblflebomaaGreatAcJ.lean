/-
  Numbers laid behind one another: comm.put, what lays one community. Conditions: sizes.
-/
import Derived.Test.YtkcojblflebomaaGreatAbF
import Derived.Test.YtkcojblflebomaaGreatAcG
set_option linter.unusedVariables false
set_option linter.unusedSimpArgs false
namespace Go.Proofs.YtkcojblflebomaaGreat
open Go.RowKit Go.MapKept Go.Shelf
open Go.Lib hiding intOf

theorem words_take {l : List Nat} {k n : Nat} (h : l[k]? = some n) : wordsB (l.take (k + 1)) = wordsB (l.take k) ++ beB n 4 4 := fm_take (fun n => beB n 4 4) h
theorem exts_take {l : List Nat} {k n : Nat} (h : l[k]? = some n) : extsB (l.take (k + 1)) = extsB (l.take k) ++ beB n 8 8 := fm_take (fun n => beB n 8 8) h
theorem lgs_take {l : List Lg} {k : Nat} {x : Lg} (h : l[k]? = some x) : largesB (l.take (k + 1)) = largesB (l.take k) ++ (beB x.g 4 4 ++ beB x.a 4 4 ++ beB x.b 4 4) := fm_take (fun x : Lg => beB x.g 4 4 ++ beB x.a 4 4 ++ beB x.b 4 4) h
theorem words_len : ∀ l : List Nat, (wordsB l).length = 4 * l.length
  | [] => rfl
  | n :: r => by
    show (beB n 4 4 ++ wordsB r).length = _
    rw [List.length_append, beB_length, words_len r, List.length_cons]
    omega
theorem exts_len : ∀ l : List Nat, (extsB l).length = 8 * l.length
  | [] => rfl
  | n :: r => by
    show (beB n 8 8 ++ extsB r).length = _
    rw [List.length_append, beB_length, exts_len r, List.length_cons]
    omega
theorem lgs_len : ∀ l : List Lg, (largesB l).length = 12 * l.length
  | [] => rfl
  | x :: r => by
    show ((beB x.g 4 4 ++ beB x.a 4 4 ++ beB x.b 4 4) ++ largesB r).length = _
    rw [List.length_append, List.length_append, List.length_append, beB_length, beB_length, beB_length, lgs_len r, List.length_cons]
    omega
theorem u8_same {a b : Nat} (h : a % 256 = b % 256) : UInt8.ofNat a = UInt8.ofNat b := by
  apply UInt8.toNat_inj.1
  rw [UInt8.toNat_ofNat', UInt8.toNat_ofNat']
  exact h
theorem cons_eq {a b : UInt8} {s t : List UInt8} (h : a = b) (h2 : s = t) : a :: s = b :: t := by rw [h, h2]
theorem beB_eight (x : Nat) : beB x 8 8 = beB (x / 4294967296) 4 4 ++ beB (x % 4294967296) 4 4 := by
  simp only [beB, List.range_succ, List.range_zero, List.nil_append, List.map_append, List.map_cons, List.map_nil, List.cons_append]
  refine cons_eq (u8_same ?_) (cons_eq (u8_same ?_) (cons_eq (u8_same ?_) (cons_eq (u8_same ?_) (cons_eq (u8_same ?_) (cons_eq (u8_same ?_) (cons_eq (u8_same ?_) (cons_eq (u8_same ?_) rfl)))))))
  all_goals simp only [Nat.reduceMul, Nat.reduceSub, Nat.reducePow]
  all_goals omega
set_option maxRecDepth 100000 in
set_option maxHeartbeats 8000000 in
theorem cput_any (l : List UInt8) (ns : List Nat) (A : Option Addr) (cap : Nat) (w : World) (h : Rd w A 1 (nums .u32 ns)) (hl : ns.length ≤ cap) (hc : cap ≤ 9223372036854775807) (hf : ∀ n ∈ ns, n < 4294967296) (hlen : l.length + 4 * ns.length + 8 ≤ 140737488355328) :
    Calls Tryz.prog 100 #[.string (bts l), .slice A ns.length cap] w fun e w' => e = .returned (.string (bts (l ++ wordsB ns))) ∧ Below w.heap.size w w' := by
  have HR := Lib.hid h
  have HF := Lib.hid hf
  have HP := Lib.hid put_l
  clear h hf
  go_enter Tryz.func100, Tryz.ntmps100
  go_wp2_with fail
  go_loopw [0, 9] (fun s i wr => ∃ k : Nat, k ≤ ns.length ∧ s = .string (bts (l ++ wordsB (ns.take k))) ∧ i = .int .i64 k ∧ Hid (Below w.heap.size w wr)) (fun _ i _ => ns.length + 1 - (intOf i).toNat)
  case atStart => exact ⟨0, by omega, by simp [wordsB], rfl, Below.refl _ _⟩
  case round =>
    obtain ⟨k, hk, rfl, rfl, HB⟩ := hrel
    by_cases hlt : k < ns.length
    · obtain ⟨n, hn⟩ : ∃ n, ns[k]? = some n := ⟨ns[k], List.getElem?_eq_getElem hlt⟩
      obtain ⟨b, off, rfl, hb, q0⟩ := num_at (HR.out.below HB.out (Nat.le_refl _)) hn
      have hnf := HF.out n (List.mem_of_getElem? hn)
      have HT := Lib.hid (words_take hn)
      have hwl : (wordsB (ns.take k)).length = 4 * k := by rw [words_len, List.length_take]; omega
      obtain ⟨s, hs⟩ : ∃ s, s = l ++ wordsB (ns.take k) := ⟨_, rfl⟩
      have hsl : s.length ≤ l.length + 4 * k := by rw [hs, List.length_append, hwl]; exact Nat.le_refl _
      have hwr : IntKind.u64.wrap ((n : Nat) : Int) = ((n : Nat) : Int) := IntWalk.u64_in _ (by omega)
      have HPN : Hid (∀ W, Calls Tryz.prog 97 #[.string (bts s), .int .u64 (n : Nat), .int .i64 4] W fun e w' => e = .returned (.tuple #[.string (bts (s ++ beB n 4 4)), .int .i64 0]) ∧ Below W.heap.size W w') := fun W => HP.out s n 4 W (by omega) (by decide) (by decide) (by omega) (by omega)
      have HEQ : Hid (s ++ beB n 4 4 = l ++ wordsB (ns.take (k + 1))) := by show _ = _; rw [hs, HT.out, List.append_assoc]
      rw [← hs]
      clear hs hwl hn HP
      go_wp2_with fail
      refine (HPN.out _).mono ?_
      rintro e w2 ⟨rfl, hb2⟩
      have HB2 : Hid (Below w.heap.size w w2) := HB.out.trans (hb2.mono HB.out.size)
      clear hb2 q0
      go_wp2_with fail
      exact ⟨⟨k + 1, by omega, by rw [HEQ.out], by go_num, HB2.out⟩, by simp [intOf]; omega⟩
    · obtain rfl : k = ns.length := by omega
      rw [List.take_length]
      go_wp2_with fail
      go_ret
      exact ⟨rfl, HB.out⟩
theorem rd_nums {w : World} {b : Nat} {T : TypeId} (ns : List Nat) (h : CellsAt w b (ns.map fun n => Value.int .u32 (n : Nat)).toArray T) : Rd w (some ⟨b, 0, none⟩) 1 (nums .u32 ns) := fun hl => ⟨b, 0, rfl, h.lt, fun i cs hi j u hu => by
  unfold nums at hi
  rw [List.getElem?_map] at hi
  cases hx : ns[i]? with
  | none => rw [hx] at hi; cases hi
  | some n =>
    rw [hx] at hi
    obtain rfl : [Value.int .u32 (n : Nat)] = cs := Option.some.inj hi
    match j, hu with
    | 0, hu =>
      obtain rfl : Value.int .u32 (n : Nat) = u := Option.some.inj hu
      rw [show 0 + i * 1 + 0 = i by omega, h.c, List.getElem?_toArray, List.getElem?_map, hx]
      rfl
    | j + 1, hu => cases hu⟩
set_option maxHeartbeats 4000000 in
theorem one_u32 (l : List UInt8) (n : Nat) (hn : n < 4294967296) (w : World) (hlen : l.length + 100 ≤ 140737488355328) :
    Calls Tryz.prog 99 #[.string (bts l), .int .u32 (n : Nat)] w fun e w' => e = .returned (.string (bts (l ++ beB n 4 4))) ∧ Below w.heap.size w w' := by
  have HP : Hid (∀ (W : World) (b : Nat), CellsAt W b #[.int .u32 (n : Nat)] 35 → Calls Tryz.prog 100 #[.string (bts l), .slice (some ⟨b, 0, none⟩) 1 1] W fun e w' => e = .returned (.string (bts (l ++ beB n 4 4))) ∧ Below W.heap.size W w') := fun W b hc => by
    have h := cput_any l [n] (some ⟨b, 0, none⟩) 1 W (rd_nums [n] hc) (Nat.le_refl _) (by decide) (fun n hn => by
      simp only [List.mem_cons, List.not_mem_nil, or_false] at hn
      omega) (by simp; omega)
    rw [show wordsB [n] = beB n 4 4 by simp [wordsB]] at h
    exact h
  go_enter Tryz.func99, Tryz.ntmps99
  have HCB : Hid (CellsAt (w.alloc (.cells #[.int .u32 (n : Nat)] 35)) w.heap.size #[.int .u32 (n : Nat)] 35) := CellsAt.new _ _ _
  have HBB : Hid (Below w.heap.size w (w.alloc (.cells #[.int .u32 (n : Nat)] 35))) := (Below.refl _ _).alloc (Nat.le_refl _) _
  go_wp2_with fail
  refine (HP.out _ _ HCB.out).mono ?_
  rintro e w1 ⟨rfl, hb⟩
  have HB := Lib.hid (HBB.out.trans (hb.mono HBB.out.size))
  clear hb
  go_wp2_with fail
  go_ret
  exact ⟨rfl, HB.out⟩
set_option maxHeartbeats 4000000 in
theorem one_u64 (l : List UInt8) (x : Nat) (hx : x < 18446744073709551616) (w : World) (hlen : l.length + 100 ≤ 140737488355328) :
    Calls Tryz.prog 102 #[.string (bts l), .int .u64 (x : Nat)] w fun e w' => e = .returned (.string (bts (l ++ beB x 8 8))) ∧ Below w.heap.size w w' := by
  obtain ⟨p, hp⟩ : ∃ p, p = x / 4294967296 := ⟨_, rfl⟩
  obtain ⟨q, hq⟩ : ∃ q, q = x % 4294967296 := ⟨_, rfl⟩
  have hn1 : p < 4294967296 := by omega
  have hn2 : q < 4294967296 := by omega
  rw [beB_eight, ← hp, ← hq]
  have HP : Hid (∀ (W : World) (b : Nat), CellsAt W b #[.int .u32 (p : Nat), .int .u32 (q : Nat)] 35 → Calls Tryz.prog 100 #[.string (bts l), .slice (some ⟨b, 0, none⟩) 2 2] W fun e w' => e = .returned (.string (bts (l ++ (beB p 4 4 ++ beB q 4 4)))) ∧ Below W.heap.size W w') := fun W b hc => by
    have h := cput_any l [p, q] (some ⟨b, 0, none⟩) 2 W (rd_nums [p, q] hc) (Nat.le_refl _) (by decide) (fun n hn => by
      simp only [List.mem_cons, List.not_mem_nil, or_false] at hn
      omega) (by simp; omega)
    rw [show wordsB [p, q] = beB p 4 4 ++ beB q 4 4 by simp [wordsB]] at h
    exact h
  go_enter Tryz.func102, Tryz.ntmps102
  have zs : ((x : Nat) : Int) / 4294967296 = (p : Nat) := by rw [hp]; simp
  have zp : IntKind.u32.wrap ((p : Nat) : Int) = ((p : Nat) : Int) := by rw [IntKind.wrap_u32]; omega
  have zq : IntKind.u32.wrap ((x : Nat) : Int) = ((q : Nat) : Int) := by rw [IntKind.wrap_u32, hq]; omega
  have HCB : Hid (CellsAt (w.alloc (.cells #[.int .u32 (p : Nat), .int .u32 (q : Nat)] 35)) w.heap.size #[.int .u32 (p : Nat), .int .u32 (q : Nat)] 35) := CellsAt.new _ _ _
  have HBB : Hid (Below w.heap.size w (w.alloc (.cells #[.int .u32 (p : Nat), .int .u32 (q : Nat)] 35))) := (Below.refl _ _).alloc (Nat.le_refl _) _
  clear hp hq
  go_wp2_with fail
  refine (HP.out _ _ HCB.out).mono ?_
  rintro e w1 ⟨rfl, hb⟩
  have HB := Lib.hid (HBB.out.trans (hb.mono HBB.out.size))
  clear hb
  go_wp2_with fail
  go_ret
  exact ⟨rfl, HB.out⟩
set_option maxHeartbeats 4000000 in
theorem one_L (l : List UInt8) (x : Lg) (hx : x.g < 4294967296 ∧ x.a < 4294967296 ∧ x.b < 4294967296) (w : World) (hlen : l.length + 100 ≤ 140737488355328) :
    Calls Tryz.prog 105 #[.string (bts l), .agg #[.int .u32 (x.g : Nat), .int .u32 (x.a : Nat), .int .u32 (x.b : Nat)]] w fun e w' => e = .returned (.string (bts (l ++ (beB x.g 4 4 ++ beB x.a 4 4 ++ beB x.b 4 4)))) ∧ Below w.heap.size w w' := by
  have HP : Hid (∀ (W : World) (b : Nat), CellsAt W b #[.int .u32 (x.g : Nat), .int .u32 (x.a : Nat), .int .u32 (x.b : Nat)] 35 → Calls Tryz.prog 100 #[.string (bts l), .slice (some ⟨b, 0, none⟩) 3 3] W fun e w' => e = .returned (.string (bts (l ++ (beB x.g 4 4 ++ beB x.a 4 4 ++ beB x.b 4 4)))) ∧ Below W.heap.size W w') := fun W b hc => by
    have h := cput_any l [x.g, x.a, x.b] (some ⟨b, 0, none⟩) 3 W (rd_nums [x.g, x.a, x.b] hc) (Nat.le_refl _) (by decide) (fun n hn => by
      simp only [List.mem_cons, List.not_mem_nil, or_false] at hn
      omega) (by simp; omega)
    rw [show wordsB [x.g, x.a, x.b] = beB x.g 4 4 ++ beB x.a 4 4 ++ beB x.b 4 4 by simp [wordsB]] at h
    exact h
  go_enter Tryz.func105, Tryz.ntmps105
  have HX0 : Hid (CellsAt (w.alloc (.cells #[.int .u32 (x.g : Nat), .int .u32 (x.a : Nat), .int .u32 (x.b : Nat)] 59)) w.heap.size #[.int .u32 (x.g : Nat), .int .u32 (x.a : Nat), .int .u32 (x.b : Nat)] 59) := CellsAt.new _ _ _
  obtain ⟨x0, x1, x2⟩ := HX0.out.c3
  have HCB : Hid (CellsAt ((w.alloc (.cells #[.int .u32 (x.g : Nat), .int .u32 (x.a : Nat), .int .u32 (x.b : Nat)] 59)).alloc (.cells #[.int .u32 (x.g : Nat), .int .u32 (x.a : Nat), .int .u32 (x.b : Nat)] 35)) (w.heap.size + 1) #[.int .u32 (x.g : Nat), .int .u32 (x.a : Nat), .int .u32 (x.b : Nat)] 35) := by
    have h := CellsAt.new (w.alloc (.cells #[.int .u32 (x.g : Nat), .int .u32 (x.a : Nat), .int .u32 (x.b : Nat)] 59)) #[.int .u32 (x.g : Nat), .int .u32 (x.a : Nat), .int .u32 (x.b : Nat)] 35
    rwa [show (w.alloc (.cells #[.int .u32 (x.g : Nat), .int .u32 (x.a : Nat), .int .u32 (x.b : Nat)] 59)).heap.size = w.heap.size + 1 by simp] at h
  have HBB : Hid (Below w.heap.size w ((w.alloc (.cells #[.int .u32 (x.g : Nat), .int .u32 (x.a : Nat), .int .u32 (x.b : Nat)] 59)).alloc (.cells #[.int .u32 (x.g : Nat), .int .u32 (x.a : Nat), .int .u32 (x.b : Nat)] 35))) := ((Below.refl _ _).alloc (Nat.le_refl _) _).alloc (by simp) _
  go_wp2_with fail
  refine (HP.out _ _ HCB.out).mono ?_
  rintro e w1 ⟨rfl, hb⟩
  have HB := Lib.hid (HBB.out.trans (hb.mono HBB.out.size))
  clear hb
  go_wp2_with fail
  go_ret
  exact ⟨rfl, HB.out⟩
end Go.Proofs.YtkcojblflebomaaGreat
