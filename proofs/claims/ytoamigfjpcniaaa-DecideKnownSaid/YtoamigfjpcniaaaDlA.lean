/-
  Is a number among others, an AS in a path? Conditions: sizes.
-/
import Derived.Test.YtoamigfjpcniaaaDeH
set_option linter.unusedVariables false
set_option linter.unusedSimpArgs false
namespace Go.Proofs.Ytoamigfjpcniaaa
open Go.RowKit Go.MapKept Go.Shelf
open Go.Lib hiding intOf

def hasN (l : List Nat) (n : Int) : Bool := l.any fun x => (x : Int) == n
theorem hasN_take {l : List Nat} {k : Nat} {x : Nat} (n : Int) (h : l[k]? = some x) : hasN (l.take (k + 1)) n = (hasN (l.take k) n || (x : Int) == n) := by
  unfold hasN
  rw [List.take_add_one, h, Option.toList_some, List.any_append, List.any_cons, List.any_nil, Bool.or_false]
theorem hasN_yes {l : List Nat} {k : Nat} {x : Nat} {n : Int} (h : l[k]? = some x) (he : (x : Int) = n) : hasN l n = true := by
  unfold hasN
  exact List.any_eq_true.2 ⟨x, List.mem_of_getElem? h, by rw [he]; simp⟩
theorem u32_at {w : World} {A : Option Addr} {l : List Nat} {k x : Nat} (h : Rd w A 1 (l.map fun n => [Value.int .u32 (n : Nat)])) (hx : l[k]? = some x) : ∃ b off, A = some ⟨b, off, none⟩ ∧ b < w.heap.size ∧ w.cell? ⟨b, off + k, none⟩ = some (.int .u32 (x : Nat)) := by
  obtain ⟨b, off, hA, hb, hc⟩ := Rd.at_ (i := k) (cs := [Value.int .u32 (x : Nat)]) h (by rw [List.getElem?_map, hx]; rfl)
  have := hc 0 _ rfl
  rw [Nat.mul_one, Nat.add_zero] at this
  exact ⟨b, off, hA, hb, this⟩
set_option maxHeartbeats 4000000 in
theorem index_any (A : Option Addr) (cap : Nat) (l : List Nat) (n : Int) (w : World) (h : Rd w A 1 (l.map fun n => [Value.int .u32 (n : Nat)])) (hl : l.length ≤ cap) (hc : cap ≤ 9223372036854775807) :
    Calls Try.prog 86 #[.slice A l.length cap, .int .u32 n] w fun e w' => ∃ r : Int, e = .returned (.int .i64 r) ∧ decide (0 ≤ r) = hasN l n ∧ w' = w := by
  have HR := Lib.hid h
  clear h
  go_enter Try.func86, Try.ntmps86
  go_wp2_with fail
  go_loopw [8] (fun i wr => ∃ k : Nat, k ≤ l.length ∧ i = .int .i64 k ∧ hasN (l.take k) n = false ∧ wr = w) (fun i _ => l.length + 1 - (intOf i).toNat)
  case atStart => exact ⟨0, by omega, rfl, rfl, rfl⟩
  case round =>
    obtain ⟨k, hk, rfl, hno, hwr⟩ := hrel
    subst hwr
    have HNO := Lib.hid hno
    clear hno
    by_cases hlt : k < l.length
    · obtain ⟨x, hx⟩ : ∃ x, l[k]? = some x := ⟨l[k], List.getElem?_eq_getElem hlt⟩
      obtain ⟨b, off, rfl, hb, hcell⟩ := u32_at HR.out hx
      have HX := Lib.hid hx
      clear hx
      by_cases he : n = (x : Int)
      · have hq : (n == (x : Int)) = true := by rw [he]; simp
        have HY := Lib.hid (hasN_yes HX.out he.symm)
        clear he
        go_wp2_with fail
        go_ret
        exact ⟨k, rfl, by rw [HY.out]; exact decide_eq_true (by omega), rfl⟩
      · have hq : (n == (x : Int)) = false := beq_eq_false_iff_ne.2 he
        have HY : Hid (hasN (l.take (k + 1)) n = false) := by
          show _ = _
          rw [hasN_take n HX.out, HNO.out, beq_eq_false_iff_ne.2 (fun e => he e.symm)]
          rfl
        clear he
        go_wp2_with fail
        exact ⟨⟨k + 1, by omega, by go_num, HY.out, by trivial⟩, by simp [intOf]; omega⟩
    · obtain rfl : k = l.length := by omega
      rw [List.take_length] at HNO
      go_wp2_with fail
      go_ret
      exact ⟨-1, rfl, by rw [HNO.out]; rfl, rfl⟩
set_option maxHeartbeats 4000000 in
theorem contains_any (A : Option Addr) (cap : Nat) (l : List Nat) (n : Int) (w : World) (h : Rd w A 1 (l.map fun n => [Value.int .u32 (n : Nat)])) (hl : l.length ≤ cap) (hc : cap ≤ 9223372036854775807) :
    Calls Try.prog 52 #[.slice A l.length cap, .int .u32 n] w fun e w' => e = .returned (.bool (hasN l n)) ∧ w' = w := by
  have HI := Lib.hid (index_any A cap l n w h hl hc)
  clear h
  go_enter Try.func52, Try.ntmps52
  go_wp2_with fail
  refine HI.out.mono ?_
  rintro e w' ⟨r, rfl, hr, rfl⟩
  have HR := Lib.hid hr
  clear hr HI
  go_wp2_with fail
  go_ret
  refine ⟨?_, rfl⟩
  rw [← HR.out]
  rfl
/-- an AS in a path -/
def hasS (l : List Sg) (n : Int) : Bool := l.any fun s => hasN s.as_ n
set_option maxHeartbeats 4000000 in
theorem has1_any (s : Sg) (n : Int) (b : Nat) (T : TypeId) (w : World) (h : SgOk w s) (hb : CellsAt w b #[.int .u32 n] T) :
    Calls Try.prog 51 #[.agg #[.int .i64 s.kind, .slice s.A s.as_.length s.cap], .pointer (some ⟨b, 0, none⟩)] w fun e w' => e = .returned (.bool (hasN s.as_ n)) ∧ Below w.heap.size w w' := by
  have h0 := (hb.alloc (.cells #[.int .i64 s.kind, .slice s.A s.as_.length s.cap] 84)).c1
  have HB : Hid (Below w.heap.size w (w.alloc (.cells #[.int .i64 s.kind, .slice s.A s.as_.length s.cap] 84))) := (Below.refl _ _).alloc (Nat.le_refl _) _
  have HC := Lib.hid (contains_any s.A s.cap s.as_ n (w.alloc (.cells #[.int .i64 s.kind, .slice s.A s.as_.length s.cap] 84)) (h.rd.below HB.out (Nat.le_refl _)) h.len h.cap)
  clear h hb
  go_enter Try.func51, Try.ntmps51
  go_wp2_with fail
  refine HC.out.mono ?_
  rintro e w' ⟨rfl, hw⟩
  rw [hw]
  clear hw
  go_wp2_with fail
  go_ret
  exact ⟨rfl, HB.out⟩
set_option maxHeartbeats 4000000 in
theorem indexf_any (A : Option Addr) (cap : Nat) (l : List Sg) (n : Int) (b : Nat) (T : TypeId) (w : World) (h : Rd w A 2 (l.map Sg.cs)) (hs : ∀ s ∈ l, SgOk w s) (hl : l.length ≤ cap) (hc : cap ≤ 9223372036854775807) (hb : CellsAt w b #[.int .u32 n] T) :
    Calls Try.prog 85 #[.slice A l.length cap, .func (.func 51) #[] #[.pointer (some ⟨b, 0, none⟩)]] w fun e w' => ∃ r : Int, e = .returned (.int .i64 r) ∧ decide (0 ≤ r) = hasS l n ∧ Below w.heap.size w w' := by
  have HR := Lib.hid h
  have HS := Lib.hid hs
  have HB := Lib.hid hb
  clear h hs hb
  go_enter Try.func85, Try.ntmps85
  go_wp2_with fail
  go_loopw [8] (fun i wr => ∃ k : Nat, k ≤ l.length ∧ i = .int .i64 k ∧ Hid (hasS (l.take k) n = false) ∧ Hid (Below w.heap.size w wr)) (fun i _ => l.length + 1 - (intOf i).toNat)
  case atStart => exact ⟨0, by omega, rfl, rfl, Below.refl _ _⟩
  case round =>
    obtain ⟨k, hk, rfl, HNO, HBW⟩ := hrel
    have hsw := HBW.out.size
    by_cases hlt : k < l.length
    · obtain ⟨s, hx⟩ : ∃ x, l[k]? = some x := ⟨l[k], List.getElem?_eq_getElem hlt⟩
      obtain ⟨b1, off, rfl, hb1, c0, c1⟩ := sg_cells (HR.out.below HBW.out (Nat.le_refl _)) hx
      have HC := Lib.hid (has1_any s n b T wr ((HS.out s (List.mem_of_getElem? hx)).below HBW.out (Nat.le_refl _)) (HB.out.below HBW.out HB.out.lt))
      have HT : Hid (hasS (l.take (k + 1)) n = hasN s.as_ n) := by
        show _ = _
        unfold hasS
        rw [List.take_add_one, hx, Option.toList_some, List.any_append, List.any_cons, List.any_nil, Bool.or_false]
        have h0 : (l.take k).any (fun s => hasN s.as_ n) = false := HNO.out
        rw [h0]
        rfl
      have HX := Lib.hid hx
      clear hx
      go_wp2_with fail
      refine HC.out.mono ?_
      rintro e w1 ⟨rfl, hbw⟩
      have HB1 := Lib.hid (HBW.out.trans (hbw.mono hsw))
      clear hbw c0 c1
      cases hh : hasN s.as_ n with
      | true =>
        have HY : Hid (hasS l n = true) := List.any_eq_true.2 ⟨s, List.mem_of_getElem? HX.out, hh⟩
        clear hh
        go_wp2_with fail
        go_ret
        exact ⟨k, rfl, by rw [HY.out]; exact decide_eq_true (by omega), HB1.out⟩
      | false =>
        rw [hh] at HT
        clear hh
        go_wp2_with fail
        exact ⟨⟨k + 1, by omega, by go_num, HT.out, HB1.out⟩, by simp [intOf]; omega⟩
    · obtain rfl : k = l.length := by omega
      rw [List.take_length] at HNO
      go_wp2_with fail
      go_ret
      exact ⟨-1, rfl, by rw [HNO.out]; rfl, HBW.out⟩
set_option maxHeartbeats 4000000 in
theorem containsf_any (A : Option Addr) (cap : Nat) (l : List Sg) (n : Int) (b : Nat) (T : TypeId) (w : World) (h : Rd w A 2 (l.map Sg.cs)) (hs : ∀ s ∈ l, SgOk w s) (hl : l.length ≤ cap) (hc : cap ≤ 9223372036854775807) (hb : CellsAt w b #[.int .u32 n] T) :
    Calls Try.prog 50 #[.slice A l.length cap, .func (.func 51) #[] #[.pointer (some ⟨b, 0, none⟩)]] w fun e w' => e = .returned (.bool (hasS l n)) ∧ Below w.heap.size w w' := by
  have HI := Lib.hid (indexf_any A cap l n b T w h hs hl hc hb)
  clear h hs hb
  go_enter Try.func50, Try.ntmps50
  go_wp2_with fail
  refine HI.out.mono ?_
  rintro e w' ⟨r, rfl, hr, hb⟩
  have HR := Lib.hid hr
  have HB := Lib.hid hb
  clear hr HI hb
  go_wp2_with fail
  go_ret
  refine ⟨?_, HB.out⟩
  rw [← HR.out]
  rfl
set_option maxHeartbeats 4000000 in
theorem has_any (A : Option Addr) (cap : Nat) (l : List Sg) (n : Int) (w : World) (h : Rd w A 2 (l.map Sg.cs)) (hs : ∀ s ∈ l, SgOk w s) (hl : l.length ≤ cap) (hc : cap ≤ 9223372036854775807) :
    Calls Try.prog 41 #[.slice A l.length cap, .int .u32 n] w fun e w' => e = .returned (.bool (hasS l n)) ∧ Below w.heap.size w w' := by
  have HB : Hid (Below w.heap.size w (w.alloc (.cells #[.int .u32 n] 28))) := (Below.refl _ _).alloc (Nat.le_refl _) _
  have HC := Lib.hid (containsf_any A cap l n w.heap.size 28 (w.alloc (.cells #[.int .u32 n] 28)) (h.below HB.out (Nat.le_refl _)) (fun s hs2 => (hs s hs2).below HB.out (Nat.le_refl _)) hl hc (CellsAt.new _ _ _))
  clear h hs
  go_enter Try.func41, Try.ntmps41
  go_wp2_with fail
  refine HC.out.mono ?_
  rintro e w' ⟨rfl, hb⟩
  have HB2 := Lib.hid (HB.out.trans (hb.mono (by simp)))
  clear hb
  go_wp2_with fail
  go_ret
  exact ⟨rfl, HB2.out⟩
end Go.Proofs.Ytoamigfjpcniaaa
