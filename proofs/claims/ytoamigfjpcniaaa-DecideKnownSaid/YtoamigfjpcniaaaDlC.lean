/-
  The document's answer: Flat, Has, Loops walked. Conditions: sizes.
-/
import Derived.Test.YtoamigfjpcniaaaDlB
import Derived.Test.YtoamigfjpcniaaaDeR
set_option linter.unusedVariables false
set_option linter.unusedSimpArgs false
namespace Go.Proofs.Ytoamigfjpcniaaa
open Go.RowKit Go.MapKept Go.Shelf
open Go.Lib hiding intOf

/-- the path's AS numbers, one behind the other -/
def flatL (l : List Sg) : List Nat := l.flatMap (·.as_)
theorem flat_take {l : List Sg} {k : Nat} {s : Sg} (h : l[k]? = some s) : flatL (l.take (k + 1)) = flatL (l.take k) ++ s.as_ := by
  unfold flatL
  rw [List.take_add_one, h, Option.toList_some, List.flatMap_append, List.flatMap_cons, List.flatMap_nil, List.append_nil]
theorem flat_le (l : List Sg) (k : Nat) : (flatL (l.take k)).length ≤ (flatL l).length := by
  have h : flatL l = flatL (l.take k) ++ flatL (l.drop k) := by
    unfold flatL
    rw [← List.flatMap_append, List.take_append_drop]
  rw [h, List.length_append]
  omega
theorem hasN_flat (l : List Sg) (n : Int) : hasN (flatL l) n = hasS l n := by
  unfold hasN hasS flatL hasN
  rw [List.any_flatMap]
set_option maxHeartbeats 4000000 in
theorem flat_any (A : Option Addr) (cap : Nat) (l : List Sg) (w : World) (h : Rd w A 2 (l.map Sg.cs)) (hs : ∀ s ∈ l, SgOk w s) (hl : l.length ≤ cap) (hc : cap ≤ 9223372036854775807) (hsz : (flatL l).length ≤ 1048576) (hl2 : l.length ≤ 1048576) :
    Calls Try.prog 53 #[.slice A l.length cap] w fun e w' => ∃ v, e = .returned v ∧ U32Own w' w.heap.size v (flatL l) ∧ Below w.heap.size w w' := by
  obtain ⟨i0, hi, hz0, hz1, hz2⟩ := info_parts infoU32
  have HI := Lib.hid hi
  have HZ0 := Lib.hid hz0
  have HZ1 := Lib.hid hz1
  have HZ2 := Lib.hid hz2
  have HR := Lib.hid h
  have HS := Lib.hid hs
  clear h hs hi hz0 hz1 hz2
  go_enter Try.func53, Try.ntmps53
  go_wp2_with fail
  go_loopw [3, 4] (fun o i wr => ∃ k : Nat, k ≤ l.length ∧ i = .int .i64 k ∧ Hid (U32Own wr w.heap.size o (flatL (l.take k))) ∧ Hid (Below w.heap.size w wr)) (fun _ i _ => l.length + 1 - (intOf i).toNat)
  case atStart => exact ⟨0, by omega, rfl, OwnM.nil _ _ _ _, Below.refl _ _⟩
  case round =>
    obtain ⟨k, hk, rfl, HO, HB⟩ := hrel
    obtain ⟨A2, c2, rfl⟩ := OwnM.form HO.out
    by_cases hlt : k < l.length
    · obtain ⟨s, hx⟩ : ∃ x, l[k]? = some x := ⟨l[k], List.getElem?_eq_getElem hlt⟩
      have HX := Lib.hid hx
      have HFT := Lib.hid (flat_take hx)
      have HSO := Lib.hid (HS.out s (List.mem_of_getElem? hx))
      have hfl := flat_le l (k + 1)
      rw [HFT.out, List.length_append] at hfl
      clear hx
      generalize flatL (l.take k) = pre at HO HFT hfl
      have HBo := HB
      have HOo := HO
      generalize hwo : wr = wo at *
      clear hwo
      go_wp2_with fail
      go_loopw [3, 5] (fun o i wr => ∃ j : Nat, j ≤ s.as_.length ∧ i = .int .i64 j ∧ Hid (U32Own wr w.heap.size o (pre ++ s.as_.take j)) ∧ Hid (Below w.heap.size w wr)) (fun _ i _ => s.as_.length + 1 - (intOf i).toNat)
      case atStart => exact ⟨0, by omega, rfl, by rw [List.take_zero, List.append_nil]; exact HOo.out, HBo.out⟩
      case round =>
        obtain ⟨j, hj, rfl, HOi, HBi⟩ := hrel
        clear HO HB HBo HOo
        obtain ⟨b, off, rfl, hb, cc0, cc1⟩ := sg_cells (HR.out.below HBi.out (Nat.le_refl _)) HX.out
        have hsl := HSO.out.len
        have hsc : s.cap ≤ 9223372036854775807 := HSO.out.cap
        have hws := HBi.out.size
        by_cases hlt2 : j < s.as_.length
        · obtain ⟨n, hn⟩ : ∃ x, s.as_[j]? = some x := ⟨s.as_[j], List.getElem?_eq_getElem hlt2⟩
          obtain ⟨b2, off2, hA2, hb2, hcell⟩ := u32_at (HSO.out.rd.below HBi.out (Nat.le_refl _)) hn
          have HT : Hid (pre ++ s.as_.take (j + 1) = (pre ++ s.as_.take j) ++ [n]) := by
            show _ = _
            rw [List.take_add_one, hn, Option.toList_some, List.append_assoc]
          have hlp : (pre ++ s.as_.take j).length ≤ pre.length + j := by rw [List.length_append, List.length_take]; omega
          rw [hA2] at cc1
          clear hn
          generalize pre ++ s.as_.take j = ys at HOi HT hlp
          obtain ⟨A5, c5, rfl⟩ := OwnM.form HOi.out
          have HC2 : Hid (CellsAt (wr.alloc (.cells #[.int .u32 (n : Nat)] 28)) wr.heap.size #[.int .u32 (n : Nat)] 28) := CellsAt.new _ _ _
          have HOa := Lib.hid (OwnM.alloc HOi.out (.cells #[.int .u32 (n : Nat)] 28))
          have HBS : Hid (w.heap.size ≤ (wr.alloc (.cells #[.int .u32 (n : Nat)] 28)).heap.size) := by
            show _ ≤ _
            simp
            omega
          have HM : Hid (ys.length + 1 ≤ maxLen) := by
            show _ ≤ _
            unfold maxLen
            omega
          have HY : Hid ((ys.length + 1) * 4 ≤ 140737488355328) := by
            show _ ≤ _
            omega
          go_wp2_with (at_builtin; refine wpList_append_m rfl (.tmp 22) (.tmp 31) 30 30 rfl w.heap.size 28 i0 _ 1 4 Try.underlying30 HI.out HZ0.out HZ1.out HZ2.out rfl (by decide) (.slice A5 ys.length c5) ys.length (u32V ys) rfl HOa.out _ 1 (u32V [n]) rfl (Src.cells Try.underlying30 HC2.out rfl (fun u hu => by simp at hu; subst hu; rfl)) HM.out HY.out HBS.out ?_)
          intro v' w5 hown hgr hat
          obtain ⟨A6, c6, rfl⟩ := hown.form
          have HN : Hid (U32Own w5 w.heap.size (.slice A6 (ys.length + 1) c6) (ys ++ [n])) := by
            show OwnM _ _ _ _ _ _ _
            rw [List.length_append]
            unfold u32V at hown ⊢
            rw [List.map_append]
            exact hown
          have HB5 : Hid (Below w.heap.size w w5) := OwnM.below_grown HOa.out hgr (HBi.out.alloc hws _) HBS.out (Nat.le_refl _)
          clear hown hgr hat cc0 cc1 hcell
          go_wp2_with fail
          exact ⟨⟨j + 1, by omega, by go_num, by rw [HT.out]; exact HN.out, HB5.out⟩, by simp [intOf]; omega⟩
        · obtain rfl : j = s.as_.length := by omega
          rw [List.take_length] at HOi
          obtain ⟨A5, c5, rfl⟩ := OwnM.form HOi.out
          go_wp2_with fail
          exact ⟨⟨k + 1, by omega, by go_num, by rw [HFT.out]; exact HOi.out, HBi.out⟩, by simp [intOf]; omega⟩
    · obtain rfl : k = l.length := by omega
      rw [List.take_length] at HO ⊢
      go_wp2_with fail
      go_ret
      exact ⟨_, rfl, HO.out, HB.out⟩
set_option maxHeartbeats 4000000 in
theorem has05_any (A : Option Addr) (cap : Nat) (l : List Nat) (n : Int) (w : World) (h : Rd w A 1 (l.map fun n => [Value.int .u32 (n : Nat)])) (hl : l.length ≤ cap) (hc : cap ≤ 9223372036854775807) :
    Calls Try.prog 43 #[.slice A l.length cap, .int .u32 n] w fun e w' => e = .returned (.bool (hasN l n)) ∧ w' = w := by
  have HR := Lib.hid h
  clear h
  go_enter Try.func43, Try.ntmps43
  go_wp2_with fail
  go_loopw [5] (fun i wr => ∃ k : Nat, k ≤ l.length ∧ i = .int .i64 k ∧ Hid (hasN (l.take k) n = false) ∧ wr = w) (fun i _ => l.length + 1 - (intOf i).toNat)
  case atStart => exact ⟨0, by omega, rfl, rfl, rfl⟩
  case round =>
    obtain ⟨k, hk, rfl, HNO, hwr⟩ := hrel
    subst hwr
    by_cases hlt : k < l.length
    · obtain ⟨x, hx⟩ : ∃ x, l[k]? = some x := ⟨l[k], List.getElem?_eq_getElem hlt⟩
      obtain ⟨b, off, rfl, hb, hcell⟩ := u32_at HR.out hx
      have HX := Lib.hid hx
      clear hx
      by_cases he : (x : Int) = n
      · have hq : ((x : Int) == n) = true := by rw [he]; simp
        have HY := Lib.hid (hasN_yes HX.out he)
        clear he
        go_wp2_with fail
        go_ret
        exact ⟨by rw [HY.out]; rfl, by trivial⟩
      · have hq : ((x : Int) == n) = false := beq_eq_false_iff_ne.2 he
        have HY : Hid (hasN (l.take (k + 1)) n = false) := by
          show _ = _
          rw [hasN_take n HX.out, HNO.out, hq]
          rfl
        clear he
        go_wp2_with fail
        exact ⟨⟨k + 1, by omega, by go_num, HY.out, by trivial⟩, by simp [intOf]; omega⟩
    · obtain rfl : k = l.length := by omega
      rw [List.take_length] at HNO
      go_wp2_with fail
      go_ret
      exact ⟨by rw [HNO.out]; rfl, by trivial⟩
set_option maxHeartbeats 4000000 in
theorem has04_any (A : Option Addr) (cap : Nat) (l : List Sg) (n : Int) (w : World) (h : Rd w A 2 (l.map Sg.cs)) (hs : ∀ s ∈ l, SgOk w s) (hl : l.length ≤ cap) (hc : cap ≤ 9223372036854775807) (hsz : (flatL l).length ≤ 1048576) (hl2 : l.length ≤ 1048576) :
    Calls Try.prog 42 #[.slice A l.length cap, .int .u32 n] w fun e w' => e = .returned (.bool (hasS l n)) ∧ Below w.heap.size w w' := by
  have HF := Lib.hid (flat_any A cap l w h hs hl hc hsz hl2)
  have HE := Lib.hid (hasN_flat l n)
  clear h hs
  go_enter Try.func42, Try.ntmps42
  go_wp2_with fail
  refine HF.out.mono ?_
  rintro e w1 ⟨v, rfl, hv, hb⟩
  have HB := Lib.hid hb
  obtain ⟨A2, c2, rfl, hrd, hl3, hc3⟩ := U32Own.sg hv
  have HR := Lib.hid hrd
  have hc4 : c2 ≤ 9223372036854775807 := hc3
  generalize flatL l = fl at *
  clear hv hrd hb HF hc3
  go_wp2_with fail
  go_loopw [6] (fun i wr => ∃ k : Nat, k ≤ fl.length ∧ i = .int .i64 k ∧ Hid (hasN (fl.take k) n = false) ∧ wr = w1) (fun i _ => fl.length + 1 - (intOf i).toNat)
  case atStart => exact ⟨0, by omega, rfl, rfl, rfl⟩
  case round =>
    obtain ⟨k, hk, rfl, HNO, hwr⟩ := hrel
    subst hwr
    by_cases hlt : k < fl.length
    · obtain ⟨x, hx⟩ : ∃ x, fl[k]? = some x := ⟨fl[k], List.getElem?_eq_getElem hlt⟩
      obtain ⟨b, off, rfl, hb, hcell⟩ := u32_at HR.out hx
      have HX := Lib.hid hx
      clear hx
      by_cases he : (x : Int) = n
      · have hq : ((x : Int) == n) = true := by rw [he]; simp
        have HY := Lib.hid (hasN_yes HX.out he)
        clear he
        go_wp2_with fail
        go_ret
        exact ⟨by rw [← HE.out, HY.out]; rfl, HB.out⟩
      · have hq : ((x : Int) == n) = false := beq_eq_false_iff_ne.2 he
        have HY : Hid (hasN (fl.take (k + 1)) n = false) := by
          show _ = _
          rw [hasN_take n HX.out, HNO.out, hq]
          rfl
        clear he
        go_wp2_with fail
        exact ⟨⟨k + 1, by omega, by go_num, HY.out, by trivial⟩, by simp [intOf]; omega⟩
    · obtain rfl : k = fl.length := by omega
      rw [List.take_length] at HNO
      go_wp2_with fail
      go_ret
      exact ⟨by rw [← HE.out, HNO.out]; rfl, HB.out⟩
end Go.Proofs.Ytoamigfjpcniaaa
