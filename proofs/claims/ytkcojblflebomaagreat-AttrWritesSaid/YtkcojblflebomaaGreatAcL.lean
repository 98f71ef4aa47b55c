/-
  The document's bytes of a path and of numbers: heraldref04.Encode, heraldref06.words walked. Conditions: sizes.
-/
import Derived.Test.YtkcojblflebomaaGreatAcJ
import Derived.Test.YtkcojblflebomaaGreatAcA
set_option linter.unusedVariables false
set_option linter.unusedSimpArgs false
namespace Go.Proofs.YtkcojblflebomaaGreat
open Go.RowKit Go.MapKept Go.Shelf
open Go.Lib hiding intOf

set_option maxRecDepth 100000 in
set_option maxHeartbeats 16000000 in
theorem rencode_any (A : Option Addr) (cap : Nat) (l : List Sg) (four : Bool) (w : World) (h : SegsOk w A cap l) (hok : pathOk (l.map Sg.c) = true) :
    Calls Tryz.prog 62 #[.slice A l.length cap, .bool four] w fun e w' => e = .returned (.tuple #[.string (bts (pathB four (l.map Sg.c))), .int .i64 0]) ∧ Below w.heap.size w w' := by
  have HR := Lib.hid h
  have hl := h.len
  have hc := h.cap
  have HCK := Lib.hid (rpcheck_any A cap l w h)
  obtain ⟨hlen, hsg⟩ := pathOk_parts hok
  rw [List.length_map] at hlen
  have HSG := Lib.hid hsg
  rw [hok, show okN true = 0 from rfl] at HCK
  have HPU := Lib.hid rput_l
  clear h hok hsg
  go_enter Tryz.func62, Tryz.ntmps62
  go_wp2_with fail
  refine HCK.out.mono ?_
  rintro e w1 ⟨rfl, rfl⟩
  clear HCK
  go_wp2_with fail
  go_loopw [6, 7] (fun s i wr => ∃ k : Nat, k ≤ l.length ∧ i = .int .i64 k ∧ s = .string (bts (pathB four ((l.map Sg.c).take k))) ∧ (pathB four ((l.map Sg.c).take k)).length ≤ 2000 * k ∧ Hid (Below w.heap.size w wr)) (fun _ i _ => l.length + 1 - (intOf i).toNat)
  case atStart => exact ⟨0, by omega, rfl, rfl, Nat.zero_le _, Below.refl _ _⟩
  case round =>
    obtain ⟨k, hk, rfl, rfl, hacc, HB⟩ := hrel
    by_cases hlt : k < l.length
    · obtain ⟨s, hx⟩ : ∃ x, l[k]? = some x := ⟨l[k], List.getElem?_eq_getElem hlt⟩
      have HSO := Lib.hid (HR.out.segs s (List.mem_of_getElem? hx))
      have HSGC := Lib.hid (fun W (hb : Below w.heap.size w W) => sg_cells (HR.out.below hb (Nat.le_refl _)).rd hx)
      obtain ⟨b, off, rfl, hb, c0, c1⟩ := HSGC.out wr HB.out
      obtain ⟨g1, g2, g3, g4⟩ := segOk_parts (HSG.out s.c (List.mem_map.2 ⟨s, List.mem_of_getElem? hx, rfl⟩))
      have HT : Hid (pathB four ((l.map Sg.c).take (k + 1)) = pathB four ((l.map Sg.c).take k) ++ (beB s.kind.toNat 1 1 ++ beB s.as_.length 1 1 ++ s.as_.flatMap (asB four))) := Lib.hid (fm_take (segB four) (l := l.map Sg.c) (k := k) (x := s.c) (by rw [List.getElem?_map, hx]; rfl))
      replace g1 : 1 ≤ s.kind := g1
      replace g2 : s.kind ≤ 4 := g2
      replace g4 : s.as_.length ≤ 255 := g4
      clear g3 hx
      obtain ⟨kd, hkd⟩ := Int.eq_ofNat_of_zero_le (show 0 ≤ s.kind by omega)
      rw [hkd] at c0 HT
      rw [Int.toNat_natCast] at HT
      have hkd4 : kd ≤ 4 := by omega
      have hsl : s.as_.length ≤ s.cap := HSO.out.len
      have hsc : s.cap ≤ 9223372036854775807 := HSO.out.cap
      have zk : IntKind.u64.wrap ((kd : Nat) : Int) = ((kd : Nat) : Int) := IntWalk.u64_in _ (by omega)
      have zl : IntKind.u64.wrap ((s.as_.length : Nat) : Int) = ((s.as_.length : Nat) : Int) := IntWalk.u64_in _ (by omega)
      have HKD := Lib.hid hkd
      clear hkd g1 g2
      obtain ⟨acc, haccE⟩ : ∃ a, a = pathB four ((l.map Sg.c).take k) := ⟨_, rfl⟩
      rw [← haccE] at HT hacc ⊢
      clear haccE
      have HP1 : Hid (∀ W, Calls Tryz.prog 71 #[.string (bts acc), .int .u64 (kd : Nat), .int .i64 1] W fun e w' => e = .returned (.tuple #[.string (bts (acc ++ beB kd 1 1)), .int .i64 0]) ∧ Below W.heap.size W w') := fun W => HPU.out acc kd 1 W (by omega) (by decide) (by decide) (by omega) (by omega)
      obtain ⟨acc1, hacc1⟩ : ∃ a, a = acc ++ beB kd 1 1 := ⟨_, rfl⟩
      rw [← hacc1] at HP1
      have hl1 : acc1.length ≤ 2000 * k + 1 := by rw [hacc1, List.length_append, beB_len]; omega
      have HP2 : Hid (∀ W, Calls Tryz.prog 71 #[.string (bts acc1), .int .u64 (s.as_.length : Nat), .int .i64 1] W fun e w' => e = .returned (.tuple #[.string (bts (acc1 ++ beB s.as_.length 1 1)), .int .i64 0]) ∧ Below W.heap.size W w') := fun W => HPU.out acc1 s.as_.length 1 W (by omega) (by decide) (by decide) (by omega) (by omega)
      obtain ⟨acc2, hacc2⟩ : ∃ a, a = acc1 ++ beB s.as_.length 1 1 := ⟨_, rfl⟩
      rw [← hacc2] at HP2
      have hl2 : acc2.length ≤ 2000 * k + 2 := by rw [hacc2, List.length_append, beB_len]; omega
      have HT2 : Hid (pathB four ((l.map Sg.c).take (k + 1)) = acc2 ++ s.as_.flatMap (asB four)) := by
        show _ = _
        rw [HT.out, hacc2, hacc1, List.append_assoc, List.append_assoc, List.append_assoc]
      clear hacc1 hacc2 HT
      go_wp2_with fail
      refine (HP1.out _).mono ?_
      rintro e v1 ⟨rfl, hb1⟩
      have HB1 : Hid (Below w.heap.size w v1) := HB.out.trans (hb1.mono HB.out.size)
      have hlt1 : b < v1.heap.size := Nat.lt_of_lt_of_le hb hb1.size
      have d0 := (hb1.cell (p := ⟨b, _, none⟩) hb).trans c0
      have d1 := (hb1.cell (p := ⟨b, _, none⟩) hb).trans c1
      clear hb1 c0 c1 HB hb
      go_wp2_with fail
      refine (HP2.out _).mono ?_
      rintro e v2 ⟨rfl, hb2⟩
      have HB2 : Hid (Below w.heap.size w v2) := HB1.out.trans (hb2.mono HB1.out.size)
      have HLT2 : Hid (b < v2.heap.size) := Nat.lt_of_lt_of_le hlt1 hb2.size
      have HD1 : Hid (v2.cell? ⟨b, off + k * 2 + 1, none⟩ = some (.slice s.A s.as_.length s.cap)) := (hb2.cell (p := ⟨b, _, none⟩) hlt1).trans d1
      clear hb2 d0 d1 HB1 hlt1 HP1 HP2
      go_wp2_with fail
      go_loopw [6, 8] (fun v i wr => ∃ j : Nat, j ≤ s.as_.length ∧ i = .int .i64 j ∧ v = .string (bts (acc2 ++ (s.as_.take j).flatMap (asB four))) ∧ (acc2 ++ (s.as_.take j).flatMap (asB four)).length ≤ 2000 * k + 2 + 4 * j ∧ Hid (Below v2.heap.size v2 wr)) (fun _ i _ => s.as_.length + 1 - (intOf i).toNat)
      case atStart => exact ⟨0, by omega, rfl, by rw [List.take_zero, List.flatMap_nil, List.append_nil], by simpa using hl2, Below.refl _ _⟩
      case round =>
        obtain ⟨j, hj, rfl, rfl, hal, HBj⟩ := hrel
        have d1 := (HBj.out.cell (p := ⟨b, _, none⟩) HLT2.out).trans HD1.out
        have HBW : Hid (Below w.heap.size w wr) := HB2.out.trans (HBj.out.mono HB2.out.size)
        by_cases hlt2 : j < s.as_.length
        · obtain ⟨n, hn⟩ : ∃ x, s.as_[j]? = some x := ⟨s.as_[j], List.getElem?_eq_getElem hlt2⟩
          obtain ⟨b2, off2, hA2, hb2, hcell⟩ := num_at (HSO.out.below HBW.out (Nat.le_refl _)).rd hn
          have hn32 := HSO.out.fits n (List.mem_of_getElem? hn)
          have HJT : Hid (acc2 ++ (s.as_.take (j + 1)).flatMap (asB four) = (acc2 ++ (s.as_.take j).flatMap (asB four)) ++ asB four n) := Lib.hid (by rw [fm_take (asB four) hn, List.append_assoc])
          have zn : IntKind.u64.wrap ((n : Nat) : Int) = ((n : Nat) : Int) := IntWalk.u64_in _ (by omega)
          rw [hA2] at d1
          clear hn hA2
          generalize acc2 ++ (s.as_.take j).flatMap (asB four) = pre at hal HJT ⊢
          cases four with
          | true =>
            have HAB : Hid (asB true n = beB n 4 4) := rfl
            have HPN : Hid (∀ W, Calls Tryz.prog 71 #[.string (bts pre), .int .u64 (n : Nat), .int .i64 4] W fun e w' => e = .returned (.tuple #[.string (bts (pre ++ beB n 4 4)), .int .i64 0]) ∧ Below W.heap.size W w') := fun W => HPU.out pre n 4 W (by omega) (by omega) (by omega) (Nat.lt_of_lt_of_le hn32 (by decide)) (by omega)
            have hln : (pre ++ beB n 4 4).length ≤ 2000 * k + 2 + 4 * (j + 1) := by rw [List.length_append, beB_len]; omega
            rw [HAB.out] at HJT
            clear HPU
            go_wp2_with fail
            refine (HPN.out _).mono ?_
            rintro e v5 ⟨rfl, hb5⟩
            have HB5 : Hid (Below v2.heap.size v2 v5) := HBj.out.trans (hb5.mono HBj.out.size)
            clear hb5 hcell d1
            go_wp2_with fail
            exact ⟨⟨j + 1, by omega, by go_num, by rw [HJT.out], by rw [HJT.out]; exact hln, HB5.out⟩, by simp [intOf]; omega⟩
          | false =>
            by_cases h5 : 65535 < n
            · have h5' : 65535 < (n : Int) := by omega
              have HAB : Hid (asB false n = beB 23456 2 2) := by show _ = _; unfold asB; rw [if_neg (by simp), if_pos h5]
              clear h5
              have HPN : Hid (∀ W, Calls Tryz.prog 71 #[.string (bts pre), .int .u64 23456, .int .i64 2] W fun e w' => e = .returned (.tuple #[.string (bts (pre ++ beB 23456 2 2)), .int .i64 0]) ∧ Below W.heap.size W w') := fun W => HPU.out pre 23456 2 W (by omega) (by omega) (by omega) (by decide) (by omega)
              have hln : (pre ++ beB 23456 2 2).length ≤ 2000 * k + 2 + 4 * (j + 1) := by rw [List.length_append, beB_len]; omega
              rw [HAB.out] at HJT
              clear HPU
              go_wp2_with fail
              refine (HPN.out _).mono ?_
              rintro e v5 ⟨rfl, hb5⟩
              have HB5 : Hid (Below v2.heap.size v2 v5) := HBj.out.trans (hb5.mono HBj.out.size)
              clear hb5 hcell d1
              go_wp2_with fail
              exact ⟨⟨j + 1, by omega, by go_num, by rw [HJT.out], by rw [HJT.out]; exact hln, HB5.out⟩, by simp [intOf]; omega⟩
            · have h5' : ¬ 65535 < (n : Int) := by omega
              have HAB : Hid (asB false n = beB n 2 2) := by show _ = _; unfold asB; rw [if_neg (by simp), if_neg h5]
              have hn16 : n ≤ 65535 := by omega
              clear h5
              have HPN : Hid (∀ W, Calls Tryz.prog 71 #[.string (bts pre), .int .u64 (n : Nat), .int .i64 2] W fun e w' => e = .returned (.tuple #[.string (bts (pre ++ beB n 2 2)), .int .i64 0]) ∧ Below W.heap.size W w') := fun W => HPU.out pre n 2 W (by omega) (by omega) (by omega) (Nat.lt_of_le_of_lt hn16 (by decide)) (by omega)
              have hln : (pre ++ beB n 2 2).length ≤ 2000 * k + 2 + 4 * (j + 1) := by rw [List.length_append, beB_len]; omega
              rw [HAB.out] at HJT
              clear HPU
              go_wp2_with fail
              refine (HPN.out _).mono ?_
              rintro e v5 ⟨rfl, hb5⟩
              have HB5 : Hid (Below v2.heap.size v2 v5) := HBj.out.trans (hb5.mono HBj.out.size)
              clear hb5 hcell d1
              go_wp2_with fail
              exact ⟨⟨j + 1, by omega, by go_num, by rw [HJT.out], by rw [HJT.out]; exact hln, HB5.out⟩, by simp [intOf]; omega⟩
        · obtain rfl : j = s.as_.length := by omega
          rw [List.take_length, ← HT2.out] at hal
          rw [List.take_length, ← HT2.out]
          go_wp2_with fail
          exact ⟨⟨k + 1, by omega, by go_num, rfl, by omega, HBW.out⟩, by simp [intOf]; omega⟩
    · obtain rfl : k = l.length := by omega
      rw [List.take_of_length_le (by rw [List.length_map]; exact Nat.le_refl _)]
      go_wp2_with fail
      go_ret2
      exact ⟨rfl, HB.out⟩
set_option maxRecDepth 100000 in
set_option maxHeartbeats 8000000 in
theorem rwords_any (A : Option Addr) (cap : Nat) (ns : List Nat) (w : World) (h : Rd w A 1 (nums .u32 ns)) (hl : ns.length ≤ cap) (hc : cap ≤ 9223372036854775807) (hf : ∀ n ∈ ns, n < 4294967296) (hlen : ns.length ≤ 1000) :
    Calls Tryz.prog 63 #[.slice A ns.length cap] w fun e w' => e = .returned (.string (bts (wordsB ns))) ∧ Below w.heap.size w w' := by
  have HR := Lib.hid h
  have HF := Lib.hid hf
  have HP := Lib.hid rnum_any
  clear h hf
  go_enter Tryz.func63, Tryz.ntmps63
  go_wp2_with fail
  go_loopw [3, 4] (fun s i wr => ∃ k : Nat, k ≤ ns.length ∧ s = .string (bts (wordsB (ns.take k))) ∧ i = .int .i64 k ∧ Hid (Below w.heap.size w wr)) (fun _ i _ => ns.length + 1 - (intOf i).toNat)
  case atStart => exact ⟨0, by omega, rfl, rfl, Below.refl _ _⟩
  case round =>
    obtain ⟨k, hk, rfl, rfl, HB⟩ := hrel
    by_cases hlt : k < ns.length
    · obtain ⟨n, hn⟩ : ∃ n, ns[k]? = some n := ⟨ns[k], List.getElem?_eq_getElem hlt⟩
      obtain ⟨b, off, rfl, hb, q0⟩ := num_at (HR.out.below HB.out (Nat.le_refl _)) hn
      have hnf := HF.out n (List.mem_of_getElem? hn)
      have HT := Lib.hid (words_take hn)
      have hwl : (wordsB (ns.take k)).length = 4 * k := by rw [words_len, List.length_take]; omega
      have hwr : IntKind.u64.wrap ((n : Nat) : Int) = ((n : Nat) : Int) := IntWalk.u64_in _ (by omega)
      have HPN : Hid (∀ W, Calls Tryz.prog 31 #[.int .u64 (n : Nat), .int .i64 4] W fun e w' => e = .returned (.string (bts (beB n 4 4))) ∧ Below W.heap.size W w') := fun W => HP.out n 4 W (by decide) (by decide) (by omega) (by omega)
      obtain ⟨s1, hs1⟩ : ∃ s, s = bts (wordsB (ns.take k)) := ⟨_, rfl⟩
      obtain ⟨s2, hs2⟩ : ∃ s, s = bts (beB n 4 4) := ⟨_, rfl⟩
      have HEQ : Hid (s1 ++ s2 = bts (wordsB (ns.take (k + 1)))) := by show _ = _; rw [hs1, hs2, bts_app, HT.out]
      have z1 : s1.size ≤ 4000 := by rw [hs1, bts_size, hwl]; omega
      have z2 : s2.size = 4 := by rw [hs2, bts_size, beB_len]
      have g1 : ¬ (9223372036854775807 < s1.size + s2.size) := by omega
      rw [← hs1]
      rw [← hs2] at HPN
      have HZ2 := Lib.hid z2
      clear hs1 hs2 z2 hwl hn HP
      go_wp2_with fail
      refine (HPN.out _).mono ?_
      rintro e w2 ⟨rfl, hb2⟩
      have HB2 : Hid (Below w.heap.size w w2) := HB.out.trans (hb2.mono HB.out.size)
      clear hb2 q0
      go_wp2_with fail
      exact ⟨⟨k + 1, by omega, by rw [← HEQ.out], by go_num, HB2.out⟩, by simp [intOf]; omega⟩
    · obtain rfl : k = ns.length := by omega
      rw [List.take_length]
      go_wp2_with fail
      go_ret
      exact ⟨rfl, HB.out⟩
end Go.Proofs.YtkcojblflebomaaGreat
