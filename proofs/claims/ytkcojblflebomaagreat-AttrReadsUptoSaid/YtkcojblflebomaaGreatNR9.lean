/-
  Several texts in one.
-/
import Derived.Test.YtkcojblflebomaaGreatNR4
import Derived.Test.YtkcojblflebomaaGreatNR8
import Derived.Test.YtkcojblflebomaaGreatNR6
set_option linter.unusedVariables false
set_option linter.unusedSimpArgs false
namespace Go.Proofs.YtkcojblflebomaaGreat
open Go.RowKit Go.MapKept Go.Shelf
open Go.Lib hiding intOf

/-- a list of bytes as a string -/
def bts (l : List UInt8) : ByteArray := ⟨l.toArray⟩
theorem bts_size (l : List UInt8) : (bts l).size = l.length := by show l.toArray.size = _; simp
theorem bts_list (l : List UInt8) : (bts l).data.toList = l := by show l.toArray.toList = l; simp
theorem bts_app (a b : List UInt8) : bts a ++ bts b = bts (a ++ b) := by
  apply ByteArray.ext
  apply Array.ext'
  simp [bts]
theorem putS_bts (l : List UInt8) (v size : Nat) : putS (bts l) v size size = bts (l ++ beB v size size) := by
  rw [← putS_list, bts_list]
  rfl
theorem fits (x k : Nat) (hk : k ≤ 64) (h : x < 2 ^ k) : Lib.bitLen x ≤ k := Lib.bitLen_le x k hk h
theorem put_l (l : List UInt8) (v size : Nat) (w : World) (hb : l.length + 8 ≤ 140737488355328) (s0 : 1 ≤ size) (s1 : size ≤ 8) (hf : v < 2 ^ (8 * size)) (hv : v < 18446744073709551616) :
    Calls Tryz.prog 97 #[.string (bts l), .int .u64 (v : Nat), .int .i64 (size : Nat)] w fun e w' => e = .returned (.tuple #[.string (bts (l ++ beB v size size)), .int .i64 0]) ∧ Below w.heap.size w w' :=
  (put_ok (bts l) v size w (by rw [bts_size]; exact hb) (by omega) (by omega) s0 s1 (by rw [Int.toNat_natCast]; exact fits v _ (by omega) hf)).mono fun e w' ⟨h1, h2⟩ => ⟨by rw [h1, Int.toNat_natCast, putS_bts], h2⟩
theorem num_any (v size : Nat) (w : World) (s0 : 1 ≤ size) (s1 : size ≤ 8) (hf : v < 2 ^ (8 * size)) (hv : v < 18446744073709551616) :
    Calls Tryz.prog 51 #[.int .u64 (v : Nat), .int .i64 (size : Nat)] w fun e w' => e = .returned (.string (bts (beB v size size))) ∧ Below w.heap.size w w' := by
  have HP : Hid (Calls Tryz.prog 97 #[.string ⟨#[]⟩, .int .u64 (v : Nat), .int .i64 (size : Nat)] w fun e w' => e = .returned (.tuple #[.string (bts (beB v size size)), .int .i64 0]) ∧ Below w.heap.size w w') := put_l [] v size w (by decide) s0 s1 hf hv
  clear hf
  generalize bts (beB v size size) = s at HP ⊢
  go_enter Tryz.func51, Tryz.ntmps51
  go_wp2_with fail
  refine HP.out.mono ?_
  rintro e w1 ⟨rfl, hb⟩
  have HB := Lib.hid hb
  clear hb
  go_wp2_with fail
  go_ret
  exact ⟨rfl, HB.out⟩
/-- an AS number's bytes -/
def asB (four : Bool) (n : Nat) : List UInt8 := if four = true then beB n 4 4 else if 65535 < n then beB 23456 2 2 else beB n 2 2
def segB (four : Bool) (s : Int × List Nat) : List UInt8 := beB s.1.toNat 1 1 ++ beB s.2.length 1 1 ++ s.2.flatMap (asB four)
/-- a path's bytes -/
def pathB (four : Bool) (l : List (Int × List Nat)) : List UInt8 := l.flatMap (segB four)
theorem fm_take {α : Type} (f : α → List UInt8) {l : List α} {k : Nat} {x : α} (h : l[k]? = some x) : (l.take (k + 1)).flatMap f = (l.take k).flatMap f ++ f x := by
  rw [List.take_add_one, h, Option.toList_some, List.flatMap_append, List.flatMap_cons, List.flatMap_nil, List.append_nil]
/-- a closure that lays a number behind a string -/
theorem encput_any (b : Nat) (l : List UInt8) (v size : Nat) (w : World) (h : CellsAt w b #[.string (bts l)] 9) (hb : l.length + 8 ≤ 140737488355328) (s0 : 1 ≤ size) (s1 : size ≤ 8) (hf : v < 2 ^ (8 * size)) (hv : v < 18446744073709551616) :
    Calls Tryz.prog 96 #[.int .u64 (v : Nat), .int .i64 (size : Nat), .pointer (some ⟨b, 0, none⟩)] w fun e w' => e = .returned (.tuple #[]) ∧ CellsAt w' b #[.string (bts (l ++ beB v size size))] 9 ∧ w.grownBy w' (some b) := by
  have HP := Lib.hid (put_l l v size w hb s0 s1 hf hv)
  have HC := Lib.hid h
  have c0 := h.c1
  clear hf h
  generalize l ++ beB v size size = l2 at HP ⊢
  go_enter Tryz.func96, Tryz.ntmps96
  go_wp2_with fail
  refine HP.out.mono ?_
  rintro e w1 ⟨rfl, hbl⟩
  have HC1 : Hid (CellsAt w1 b #[.string (bts l)] 9) := HC.out.below hbl HC.out.lt
  have HG : Hid (w.grownBy w1 (some b)) := grown_of_below hbl _
  have d0 := HC1.out.c1
  have df : w1.frozen? ⟨b, 0, none⟩ = false := by
    have h2 : w1.heap[b]? = some (.cells #[.string (bts l)] 9 (0, 0)) := HC1.out
    simp only [World.frozen?, h2]
    exact Bool.and_eq_false_iff.2 (.inr (by simp))
  clear hbl c0
  go_wp2_with fail
  go_end0
  refine ⟨rfl, ?_, grown_trans HG.out (grown_setCell _ _ _)⟩
  have h2 : w1.heap[b]? = some (.cells #[.string (bts l)] 9 (0, 0)) := HC1.out
  unfold CellsAt
  rw [setCell_eq_setRow w1 b 0 _ _ _ _ h2]
  exact setRow_heap w1 b _ _ _ _ h2
theorem beB_len (v size k : Nat) : (beB v size k).length = k := beB_length v size k
theorem segOk_parts {s : Int × List Nat} (h : segOk s = true) : 1 ≤ s.1 ∧ s.1 ≤ 4 ∧ 1 ≤ s.2.length ∧ s.2.length ≤ 255 := by
  unfold segOk at h
  simp only [Bool.and_eq_true, decide_eq_true_eq] at h
  exact ⟨h.1.1.1.1, h.1.1.1.2, h.1.1.2, h.1.2⟩
theorem pathOk_parts {l : List (Int × List Nat)} (h : pathOk l = true) : l.length ≤ 16 ∧ ∀ s ∈ l, segOk s = true := by
  unfold pathOk at h
  simp only [Bool.and_eq_true, decide_eq_true_eq, List.all_eq_true] at h
  exact h
set_option maxRecDepth 100000 in
set_option maxHeartbeats 16000000 in
theorem encode_any (A : Option Addr) (cap : Nat) (l : List Sg) (four : Bool) (w : World) (h : SegsOk w A cap l) (hok : pathOk (l.map Sg.c) = true) :
    Calls Tryz.prog 50 #[.slice A l.length cap, .bool four] w fun e w' => e = .returned (.tuple #[.string (bts (pathB four (l.map Sg.c))), .int .i64 0]) ∧ Below w.heap.size w w' := by
  have HR := Lib.hid h
  have hl := h.len
  have hc := h.cap
  have HCK := Lib.hid (pcheck_any A cap l w h)
  obtain ⟨hlen, hsg⟩ := pathOk_parts hok
  rw [List.length_map] at hlen
  have HSG := Lib.hid hsg
  rw [hok, show okN true = 0 from rfl] at HCK
  have HPU := Lib.hid encput_any
  clear h hok hsg
  go_enter Tryz.func50, Tryz.ntmps50
  go_wp2_with fail
  refine HCK.out.mono ?_
  rintro e w1 ⟨rfl, hb⟩
  have HB1 := Lib.hid hb
  have hs1 := hb.size
  clear hb HCK
  have HC1 : Hid (CellsAt (w1.alloc (.cells #[.string (bts [])] 9)) w1.heap.size #[.string (bts [])] 9) := CellsAt.new _ _ _
  have HB2 : Hid (Below w.heap.size w (w1.alloc (.cells #[.string (bts [])] 9))) := HB1.out.alloc hs1 _
  go_wp2_with fail
  go_loopw [18] (fun i wr => ∃ k : Nat, k ≤ l.length ∧ i = .int .i64 k ∧ (pathB four ((l.map Sg.c).take k)).length ≤ 2000 * k ∧ Hid (CellsAt wr w1.heap.size #[.string (bts (pathB four ((l.map Sg.c).take k)))] 9) ∧ Hid (Below w.heap.size w wr)) (fun i _ => l.length + 1 - (intOf i).toNat)
  case atStart => exact ⟨0, by omega, rfl, Nat.zero_le _, HC1.out, HB2.out⟩
  case round =>
    clear HC1 HB2
    obtain ⟨k, hk, rfl, hacc, HC, HB⟩ := hrel
    by_cases hlt : k < l.length
    · obtain ⟨s, hx⟩ : ∃ x, l[k]? = some x := ⟨l[k], List.getElem?_eq_getElem hlt⟩
      have HSO := Lib.hid (HR.out.segs s (List.mem_of_getElem? hx))
      obtain ⟨b, off, rfl, hb, c0, c1⟩ := sg_cells (HR.out.below HB.out (Nat.le_refl _)).rd hx
      obtain ⟨g1, g2, g3, g4⟩ := segOk_parts (HSG.out s.c (List.mem_map.2 ⟨s, List.mem_of_getElem? hx, rfl⟩))
      have HT : Hid (pathB four ((l.map Sg.c).take (k + 1)) = pathB four ((l.map Sg.c).take k) ++ (beB s.kind.toNat 1 1 ++ beB s.as_.length 1 1 ++ s.as_.flatMap (asB four))) := Lib.hid (fm_take (segB four) (l := l.map Sg.c) (k := k) (x := s.c) (by rw [List.getElem?_map, hx]; rfl))
      replace g1 : 1 ≤ s.kind := g1
      replace g2 : s.kind ≤ 4 := g2
      replace g4 : s.as_.length ≤ 255 := g4
      clear g3 hx
      generalize pathB four ((l.map Sg.c).take k) = acc at HC HT hacc
      have hsw := HB.out.size
      obtain ⟨kd, hkd⟩ := Int.eq_ofNat_of_zero_le (show 0 ≤ s.kind by omega)
      rw [hkd] at c0 HT
      rw [Int.toNat_natCast] at HT
      have hkd4 : kd ≤ 4 := by omega
      have hsl : s.as_.length ≤ s.cap := HSO.out.len
      have hsc : s.cap ≤ 9223372036854775807 := HSO.out.cap
      have hlt1 := HC.out.lt
      clear hkd g1 g2
      have HCV : Hid (CellsAt (wr.alloc (.cells #[.int .i64 (kd : Nat), .slice s.A s.as_.length s.cap] 61)) w1.heap.size #[.string (bts acc)] 9) := HC.out.alloc _
      have HBV : Hid (Below w.heap.size w (wr.alloc (.cells #[.int .i64 (kd : Nat), .slice s.A s.as_.length s.cap] 61))) := HB.out.alloc hsw _
      have HSV : Hid (CellsAt (wr.alloc (.cells #[.int .i64 (kd : Nat), .slice s.A s.as_.length s.cap] 61)) wr.heap.size #[.int .i64 (kd : Nat), .slice s.A s.as_.length s.cap] 61) := CellsAt.new _ _ _
      have hneb : wr.heap.size ≠ w1.heap.size := by omega
      have HNE := Lib.hid hneb
      clear hneb
      go_wp2_with fail
      refine (HPU.out _ acc kd 1 _ HCV.out (by omega) (by omega) (by omega) (Nat.lt_of_le_of_lt hkd4 (by decide)) (by omega)).mono ?_
      rintro e v1 ⟨rfl, hcc, hg⟩
      have HC1 : Hid (CellsAt v1 w1.heap.size #[.string (bts (acc ++ beB kd 1 1))] 9) := hcc
      have HB1' : Hid (Below w.heap.size w v1) := HBV.out.grown hg HBV.out.size (fun k hk => by cases hk; exact hs1)
      have HS1 : Hid (CellsAt v1 wr.heap.size #[.int .i64 (kd : Nat), .slice s.A s.as_.length s.cap] 61) := HSV.out.own hg (fun e => HNE.out (by injection e))
      obtain ⟨acc1, hacc1⟩ : ∃ a, a = acc ++ beB kd 1 1 := ⟨_, rfl⟩
      rw [← hacc1] at HC1
      have HA1 := Lib.hid hacc1
      have hl1 : acc1.length ≤ 2000 * k + 1 := by rw [hacc1, List.length_append, beB_len]; omega
      obtain ⟨d0, d1⟩ := HS1.out.c2
      clear hcc hg hacc1 HCV HBV HSV c0 c1
      go_wp2_with fail
      refine (HPU.out _ acc1 s.as_.length 1 _ HC1.out (by omega) (by omega) (by omega) (Nat.lt_of_le_of_lt g4 (by decide)) (by omega)).mono ?_
      rintro e v2 ⟨rfl, hcc, hg⟩
      have HC2 : Hid (CellsAt v2 w1.heap.size #[.string (bts (acc1 ++ beB s.as_.length 1 1))] 9) := hcc
      have HB2 : Hid (Below w.heap.size w v2) := HB1'.out.grown hg HB1'.out.size (fun k hk => by cases hk; exact hs1)
      have HS2 : Hid (CellsAt v2 wr.heap.size #[.int .i64 (kd : Nat), .slice s.A s.as_.length s.cap] 61) := HS1.out.own hg (fun e => HNE.out (by injection e))
      obtain ⟨acc2, hacc2⟩ : ∃ a, a = acc1 ++ beB s.as_.length 1 1 := ⟨_, rfl⟩
      rw [← hacc2] at HC2
      have hl2 : acc2.length ≤ 2000 * k + 2 := by rw [hacc2, List.length_append, beB_len]; omega
      have HT2 : Hid (pathB four ((l.map Sg.c).take (k + 1)) = acc2 ++ s.as_.flatMap (asB four)) := by
        show _ = _
        rw [HT.out, hacc2, HA1.out, List.append_assoc, List.append_assoc, List.append_assoc]
      clear d0 d1
      obtain ⟨d0, d1⟩ := HS2.out.c2
      clear hcc hg hacc2 HC1 HB1' HS1 HT HB HC HA1
      go_wp2_with fail
      go_loopw [36] (fun i wz => ∃ j : Nat, j ≤ s.as_.length ∧ i = .int .i64 j ∧ (acc2 ++ (s.as_.take j).flatMap (asB four)).length ≤ 2000 * k + 2 + 4 * j ∧ Hid (CellsAt wz w1.heap.size #[.string (bts (acc2 ++ (s.as_.take j).flatMap (asB four)))] 9) ∧ Hid (Below w.heap.size w wz)) (fun i _ => s.as_.length + 1 - (intOf i).toNat)
      case atStart => exact ⟨0, by omega, rfl, by simpa using hl2, by show CellsAt _ _ _ _; rw [List.take_zero, List.flatMap_nil, List.append_nil]; exact HC2.out, HB2.out⟩
      case round =>
        clear HC2 HB2 HS2 d0 d1
        obtain ⟨j, hj, rfl, hal, HCj, HBj⟩ := hrel
        by_cases hlt2 : j < s.as_.length
        · obtain ⟨n, hn⟩ : ∃ x, s.as_[j]? = some x := ⟨s.as_[j], List.getElem?_eq_getElem hlt2⟩
          obtain ⟨b2, off2, hA2, hb2, hcell⟩ := num_at (HSO.out.below HBj.out (Nat.le_refl _)).rd hn
          have hn32 := HSO.out.fits n (List.mem_of_getElem? hn)
          have HJT : Hid (acc2 ++ (s.as_.take (j + 1)).flatMap (asB four) = (acc2 ++ (s.as_.take j).flatMap (asB four)) ++ asB four n) := Lib.hid (by rw [fm_take (asB four) hn, List.append_assoc])
          rw [hA2]
          clear hn hA2
          generalize acc2 ++ (s.as_.take j).flatMap (asB four) = pre at hal HCj HJT
          cases four with
          | true =>
            have HAB : Hid (asB true n = beB n 4 4) := rfl
            go_wp2_with fail
            refine (HPU.out _ pre n 4 _ HCj.out (by omega) (by omega) (by omega) (Nat.lt_of_lt_of_le hn32 (by decide)) (by omega)).mono ?_
            rintro e v5 ⟨rfl, hcc, hg⟩
            have HCn : Hid (CellsAt v5 w1.heap.size #[.string (bts (pre ++ beB n 4 4))] 9) := hcc
            have HBn : Hid (Below w.heap.size w v5) := HBj.out.grown hg HBj.out.size (fun k hk => by cases hk; exact hs1)
            have hln : (pre ++ beB n 4 4).length ≤ 2000 * k + 2 + 4 * (j + 1) := by rw [List.length_append, beB_len]; omega
            rw [HAB.out] at HJT
            clear hcc hg hcell
            go_wp2_with fail
            exact ⟨⟨j + 1, by omega, by go_num, by rw [HJT.out]; exact hln, by rw [HJT.out]; exact HCn.out, HBn.out⟩, by simp [intOf]; omega⟩
          | false =>
            by_cases h5 : 65535 < n
            · have h5' : 65535 < (n : Int) := by omega
              have HAB : Hid (asB false n = beB 23456 2 2) := by show _ = _; unfold asB; rw [if_neg (by simp), if_pos h5]
              clear h5
              go_wp2_with fail
              refine (HPU.out _ pre 23456 2 _ HCj.out (by omega) (by omega) (by omega) (by decide) (by omega)).mono ?_
              rintro e v5 ⟨rfl, hcc, hg⟩
              have HCn : Hid (CellsAt v5 w1.heap.size #[.string (bts (pre ++ beB 23456 2 2))] 9) := hcc
              have HBn : Hid (Below w.heap.size w v5) := HBj.out.grown hg HBj.out.size (fun k hk => by cases hk; exact hs1)
              have hln : (pre ++ beB 23456 2 2).length ≤ 2000 * k + 2 + 4 * (j + 1) := by rw [List.length_append, beB_len]; omega
              rw [HAB.out] at HJT
              clear hcc hg hcell
              go_wp2_with fail
              exact ⟨⟨j + 1, by omega, by go_num, by rw [HJT.out]; exact hln, by rw [HJT.out]; exact HCn.out, HBn.out⟩, by simp [intOf]; omega⟩
            · have h5' : ¬ 65535 < (n : Int) := by omega
              have HAB : Hid (asB false n = beB n 2 2) := by show _ = _; unfold asB; rw [if_neg (by simp), if_neg h5]
              have hn16 : n ≤ 65535 := by omega
              clear h5
              go_wp2_with fail
              refine (HPU.out _ pre n 2 _ HCj.out (by omega) (by omega) (by omega) (Nat.lt_of_le_of_lt hn16 (by decide)) (by omega)).mono ?_
              rintro e v5 ⟨rfl, hcc, hg⟩
              have HCn : Hid (CellsAt v5 w1.heap.size #[.string (bts (pre ++ beB n 2 2))] 9) := hcc
              have HBn : Hid (Below w.heap.size w v5) := HBj.out.grown hg HBj.out.size (fun k hk => by cases hk; exact hs1)
              have hln : (pre ++ beB n 2 2).length ≤ 2000 * k + 2 + 4 * (j + 1) := by rw [List.length_append, beB_len]; omega
              rw [HAB.out] at HJT
              clear hcc hg hcell
              go_wp2_with fail
              exact ⟨⟨j + 1, by omega, by go_num, by rw [HJT.out]; exact hln, by rw [HJT.out]; exact HCn.out, HBn.out⟩, by simp [intOf]; omega⟩
        · obtain rfl : j = s.as_.length := by omega
          rw [List.take_length, ← HT2.out] at HCj hal
          go_wp2_with fail
          exact ⟨⟨k + 1, by omega, by go_num, by omega, HCj.out, HBj.out⟩, by simp [intOf]; omega⟩
    · obtain rfl : k = l.length := by omega
      rw [List.take_of_length_le (by rw [List.length_map]; exact Nat.le_refl _)] at HC
      have c0 := HC.out.c1
      go_wp2_with fail
      go_ret2
      exact ⟨rfl, HB.out⟩
end Go.Proofs.YtkcojblflebomaaGreat
set_option linter.unusedVariables false
set_option linter.unusedSimpArgs false
namespace Go.Proofs.YtkcojblflebomaaGreat
open Go.RowKit Go.MapKept Go.Shelf
open Go.Lib hiding intOf

theorem hd_lt (s : ByteArray) (n : Nat) : hd s n < 256 ^ n := by
  unfold hd
  have := beVal_lt (s.data.toList.take n) _ rfl
  have h2 : (s.data.toList.take n).length ≤ n := List.length_take_le _ _
  have h3 : 256 ^ (s.data.toList.take n).length ≤ 256 ^ n := Nat.pow_le_pow_right (by omega) h2
  omega
/-- n numbers of so many bytes, one behind the other; what is left behind them -/
def asN (size : Nat) : Nat → ByteArray → List Nat
  | 0, _ => []
  | n + 1, s => hd s size :: asN size n (nx s size)
def nxN (size : Nat) : Nat → ByteArray → ByteArray
  | 0, s => s
  | n + 1, s => nxN size n (nx s size)
theorem nxN_size (size : Nat) : ∀ (n : Nat) (s : ByteArray), (nxN size n s).size = s.size - n * size
  | 0, s => by simp [nxN]
  | n + 1, s => by
    unfold nxN
    rw [nxN_size size n, nx_size, Nat.succ_mul]
    omega
theorem nxN_succ (size : Nat) : ∀ (n : Nat) (s : ByteArray), nxN size (n + 1) s = nx (nxN size n s) size
  | 0, s => rfl
  | n + 1, s => by
    show nxN size (n + 1) (nx s size) = _
    rw [nxN_succ size n]
    rfl
theorem asN_succ (size : Nat) : ∀ (n : Nat) (s : ByteArray), asN size (n + 1) s = asN size n s ++ [hd (nxN size n s) size]
  | 0, s => rfl
  | n + 1, s => by
    show hd s size :: asN size (n + 1) (nx s size) = _
    rw [asN_succ size n]
    rfl
theorem asN_len (size : Nat) : ∀ (n : Nat) (s : ByteArray), (asN size n s).length = n
  | 0, s => rfl
  | n + 1, s => by
    show (asN size n (nx s size)).length + 1 = _
    rw [asN_len size n]
def sizeOf4 (four : Bool) : Nat := if four = true then 4 else 2
/-- the first segment of bytes, and what is left -/
def pdStep (size : Nat) (s : ByteArray) : Option ((Int × List Nat) × ByteArray) :=
  if s.size < 2 then none else
  if (nx (nx s 1) 1).size < hd (nx s 1) 1 * size then none else
  some (((hd s 1 : Nat), asN size (hd (nx s 1) 1) (nx (nx s 1) 1)), nxN size (hd (nx s 1) 1) (nx (nx s 1) 1))
theorem pdStep_less {size : Nat} {s t : ByteArray} {r : Int × List Nat} (h : pdStep size s = some (r, t)) : t.size < s.size := by
  unfold pdStep at h
  split at h
  · cases h
  · split at h
    · cases h
    · simp only [Option.some.injEq, Prod.mk.injEq] at h
      obtain ⟨_, rfl⟩ := h
      rw [nxN_size, nx_size, nx_size]
      omega
def pdF (size : Nat) : Nat → ByteArray → Option (List (Int × List Nat))
  | 0, s => if s.size = 0 then some [] else none
  | n + 1, s => if s.size = 0 then some [] else match pdStep size s with
    | none => none
    | some (r, t) => (pdF size n t).map (r :: ·)
theorem pdF_fuel (size : Nat) : ∀ (n m : Nat) (s : ByteArray), s.size ≤ n → s.size ≤ m → pdF size n s = pdF size m s
  | 0, 0, s, _, _ => rfl
  | 0, m + 1, s, h, _ => by
    have h0 : s.size = 0 := by omega
    unfold pdF
    rw [if_pos h0, if_pos h0]
  | n + 1, 0, s, _, h => by
    have h0 : s.size = 0 := by omega
    unfold pdF
    rw [if_pos h0, if_pos h0]
  | n + 1, m + 1, s, h1, h2 => by
    unfold pdF
    by_cases h0 : s.size = 0
    · rw [if_pos h0, if_pos h0]
    · rw [if_neg h0, if_neg h0]
      cases hs : pdStep size s with
      | none => rfl
      | some x =>
        obtain ⟨r, t⟩ := x
        have := pdStep_less hs
        simp only
        rw [pdF_fuel size n m t (by omega) (by omega)]
def pdA (size : Nat) (s : ByteArray) : Option (List (Int × List Nat)) := pdF size s.size s
theorem pdA_end {size : Nat} {s : ByteArray} (h : s.size = 0) : pdA size s = some [] := by
  unfold pdA
  rw [h]
  unfold pdF
  rw [if_pos h]
theorem pdA_no {size : Nat} {s : ByteArray} (h0 : 0 < s.size) (h : pdStep size s = none) : pdA size s = none := by
  unfold pdA
  obtain ⟨n, hn⟩ : ∃ n, s.size = n + 1 := ⟨s.size - 1, by omega⟩
  rw [hn]
  unfold pdF
  rw [if_neg (by omega), h]
theorem pdA_step {size : Nat} {s t : ByteArray} {r : Int × List Nat} (h0 : 0 < s.size) (h : pdStep size s = some (r, t)) : pdA size s = (pdA size t).map (r :: ·) := by
  have hl := pdStep_less h
  unfold pdA
  obtain ⟨n, hn⟩ : ∃ n, s.size = n + 1 := ⟨s.size - 1, by omega⟩
  rw [hn]
  show (if s.size = 0 then some [] else match pdStep size s with
    | none => none
    | some (r, t) => (pdF size n t).map (r :: ·)) = _
  rw [if_neg (by omega), h]
  simp only
  rw [pdF_fuel size n t.size t (by omega) (Nat.le_refl _)]
theorem pd_go {size : Nat} {s t u : ByteArray} {L : List (Int × List Nat)} {r : Int × List Nat} (h : pdA size s = (pdA size t).map (L ++ ·)) (h0 : 0 < t.size) (hs : pdStep size t = some (r, u)) : pdA size s = (pdA size u).map ((L ++ [r]) ++ ·) := by
  rw [h, pdA_step h0 hs, Option.map_map]
  congr 1
  funext m
  simp
/-- the path of bytes -/
def decP (four : Bool) (s : ByteArray) : Option (List (Int × List Nat)) := match pdA (sizeOf4 four) s with
  | none => none
  | some l => if pathOk l = true then some l else none
theorem decP_no {four : Bool} {s t : ByteArray} {L : List (Int × List Nat)} (h : pdA (sizeOf4 four) s = (pdA (sizeOf4 four) t).map (L ++ ·)) (h0 : 0 < t.size) (hs : pdStep (sizeOf4 four) t = none) : decP four s = none := by
  unfold decP
  rw [h, pdA_no h0 hs]
  rfl
theorem decP_many {four : Bool} {s t : ByteArray} {L : List (Int × List Nat)} (h : pdA (sizeOf4 four) s = (pdA (sizeOf4 four) t).map (L ++ ·)) (h0 : 0 < t.size) (hl : L.length = 16) : decP four s = none := by
  unfold decP
  cases hp : pdStep (sizeOf4 four) t with
  | none => rw [h, pdA_no h0 hp]; rfl
  | some x =>
    obtain ⟨r, u⟩ := x
    rw [h, pdA_step h0 hp, Option.map_map]
    cases pdA (sizeOf4 four) u with
    | none => rfl
    | some m =>
      show (if pathOk (L ++ r :: m) = true then some (L ++ r :: m) else none) = none
      rw [if_neg]
      intro e
      have := (pathOk_parts e).1
      rw [List.length_append, List.length_cons] at this
      omega
theorem decP_end {four : Bool} {s t : ByteArray} {L : List (Int × List Nat)} (h : pdA (sizeOf4 four) s = (pdA (sizeOf4 four) t).map (L ++ ·)) (h0 : t.size = 0) : decP four s = if pathOk L = true then some L else none := by
  unfold decP
  rw [h, pdA_end h0]
  simp
theorem Sg.cs_len (s : Sg) : s.cs.length = 2 := rfl
def u1 (n : Nat) : List Value := [.int .u32 n]
theorem u1_len (n : Nat) : (u1 n).length = 1 := rfl
/-- segments that a call made -/
structure SegsOwn (w : World) (base : Nat) (v : Value) (l : List (Int × List Nat)) : Prop where
  c : ∃ segs : List Sg, OwnL w base 61 2 Sg.cs v segs ∧ segs.map Sg.c = l ∧ ∀ s ∈ segs, OwnL w base 35 1 u1 (.slice s.A s.as_.length s.cap) s.as_ ∧ (∀ n ∈ s.as_, n < 4294967296) ∧ -9223372036854775808 ≤ s.kind ∧ s.kind ≤ 9223372036854775807
theorem SegsOwn.nil (w : World) (base : Nat) : SegsOwn w base (.slice none 0 0) [] := ⟨[], OwnL.nil _ _ _ _ _, rfl, fun s h => by cases h⟩
theorem SegsOwn.grown {w w' : World} {base : Nat} {v : Value} {l : List (Int × List Nat)} {row : Option Nat} (h : SegsOwn w base v l) (hg : w.grownBy w' row) (hne : ∀ k, row = some k → k < base) : SegsOwn w' base v l := by
  obtain ⟨segs, h1, h2, h3⟩ := h.c
  exact ⟨segs, h1.grown hg hne, h2, fun s hs => ⟨(h3 s hs).1.grown hg hne, (h3 s hs).2⟩⟩
theorem SegsOwn.below {w w' : World} {base : Nat} {v : Value} {l : List (Int × List Nat)} (h : SegsOwn w base v l) (hb : Below w.heap.size w w') : SegsOwn w' base v l := by
  obtain ⟨segs, h1, h2, h3⟩ := h.c
  exact ⟨segs, h1.below hb (Nat.le_refl _), h2, fun s hs => ⟨(h3 s hs).1.below hb (Nat.le_refl _), (h3 s hs).2⟩⟩
theorem OwnL.slice {α : Type} {w : World} {base : Nat} {e : TypeId} {C : Nat} {F : α → List Value} {A : Option Addr} {c : Nat} {xs : List α} (hF : ∀ a, (F a).length = C) (h : OwnL w base e C F (.slice A xs.length c) xs) : Rd w A C (xs.map F) ∧ xs.length ≤ c ∧ c ≤ maxLen := by
  obtain ⟨A2, c2, hv, h1, h2, h3⟩ := h.rd hF
  cases hv
  exact ⟨h1, h2, h3⟩
theorem SegsOwn.ok {w : World} {base : Nat} {v : Value} {l : List (Int × List Nat)} (h : SegsOwn w base v l) : ∃ A segs c, v = .slice A segs.length c ∧ SegsOk w A c segs ∧ segs.map Sg.c = l := by
  obtain ⟨segs, h1, h2, h3⟩ := h.c
  obtain ⟨A, c, rfl, hrd, hl, hc⟩ := h1.rd Sg.cs_len
  refine ⟨A, segs, c, rfl, ⟨hrd, fun s hs => ?_, hl, hc⟩, h2⟩
  obtain ⟨h4, h5, h6⟩ := h3 s hs
  obtain ⟨r1, r2, r3⟩ := h4.slice u1_len
  exact ⟨r1, r2, r3, h5, h6⟩
theorem infoSeg : (Tryz.prog.info? 61).map (fun i => (i.zero, i.size, i.bytes)) = some (some (.agg #[.int .i64 0, .slice none 0 0]), 2, 32) := by kernel_rfl
theorem infoU32 : (Tryz.prog.info? 35).map (fun i => (i.zero, i.size, i.bytes)) = some (some (.int .u32 0), 1, 4) := by kernel_rfl
def PathPost (base : Nat) (res : Option (List (Int × List Nat))) (w' : World) (e : Ending) : Prop := match res with
  | none => e = .returned (.tuple #[.slice none 0 0, .int .i64 4])
  | some l => ∃ v, e = .returned (.tuple #[v, .int .i64 0]) ∧ SegsOwn w' base v l
end Go.Proofs.YtkcojblflebomaaGreat
