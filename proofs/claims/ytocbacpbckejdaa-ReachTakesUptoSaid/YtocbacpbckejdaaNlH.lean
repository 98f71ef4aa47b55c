/-
  Contract of the closure by which nlri.Decode reads a number. Conditions: sizes.
-/
import Derived.Test.YtocbacpbckejdaaNlE
set_option linter.unusedVariables false
set_option linter.unusedSimpArgs false
namespace Go.Proofs.Ytocbacpbckejdaa
open Go.RowKit

/-- what Decode's reading stands on: the reader's cell, the reader, the cell that says whether something was wrong -/
structure DecAt (w : World) (c9 r c10 : Nat) (s : ByteArray) (bad : Bool) : Prop where
  h9 : CellsAt w c9 #[.pointer (some ⟨r, 0, none⟩)] 70
  rd : RdAt w r s
  h10 : CellsAt w c10 #[.bool bad] 4
  n1 : r ≠ c9
  n2 : r ≠ c10
  n3 : c9 ≠ c10
theorem DecAt.below {w w' : World} {c9 r c10 B : Nat} {s : ByteArray} {bad : Bool} (h : DecAt w c9 r c10 s bad) (hb : Below B w w') (hB : w.heap.size ≤ B) : DecAt w' c9 r c10 s bad :=
  ⟨h.h9.below hb (Nat.lt_of_lt_of_le h.h9.lt hB), h.rd.below hb (Nat.lt_of_lt_of_le h.rd.lt hB), h.h10.below hb (Nat.lt_of_lt_of_le h.h10.lt hB), h.n1, h.n2, h.n3⟩
def DecX (r c10 : Nat) : Nat → Prop := fun i => i = r ∨ i = c10
/-- a number is read -/
def NTake (w : World) (c9 r c10 : Nat) (z : Int) (t : ByteArray) (bad : Bool) (e : Ending) (w' : World) : Prop := e = .returned (.int .u64 z) ∧ DecAt w' c9 r c10 t bad ∧ GrownX (DecX r c10) w w'

theorem grownBy_X {X : Nat → Prop} {w w' : World} {m : Nat} (h : w.grownBy w' (some m)) (hm : X m) : GrownX X w w' :=
  ⟨h.os, h.tape, h.output, h.size, fun i hi hx => h.block i hi (fun e => hx (by injection e with e; rw [e]; exact hm))⟩
theorem setCell_X {X : Nat → Prop} (w : World) (p : Addr) (u : Value) (hm : X p.block) : GrownX X w (w.setCell p u) :=
  ⟨rfl, rfl, rfl, by simp [World.setCell], fun i hi hx => Below.heap_setCell w p u i (fun e => hx (by rw [e]; exact hm))⟩

set_option maxRecDepth 100000 in
set_option maxHeartbeats 2000000 in
theorem ntake_ok (c9 r c10 : Nat) (s : ByteArray) (size : Nat) (bad : Bool) (w : World) (h : DecAt w c9 r c10 s bad) (s0 : 1 ≤ size) (s1 : size ≤ 8) (hs : size ≤ s.size) (hm : (s.size : Int) ≤ 9223372036854775807) {z : Int} (hz : (size : Int) = z) :
    Calls Try.prog 53 #[.int .i64 z, .pointer (some ⟨c9, 0, none⟩), .pointer (some ⟨c10, 0, none⟩)] w (NTake w c9 r c10 (beVal (s.data.toList.take size) : Nat) (s.extract size s.size) bad) := by
  subst hz
  obtain ⟨h9, hr, h10, n1, n2, n3⟩ := h
  obtain ⟨p0, pf⟩ := h9.one
  have HN := Lib.hid (number_ok r s size w hr s0 s1 hs hm)
  have H9 := Lib.hid h9
  have H10 := Lib.hid h10
  generalize beVal (s.data.toList.take size) = V at HN
  generalize s.extract size s.size = T at HN
  clear h9 h10 hr
  go_enter Try.func53, Try.ntmps53
  go_wp2_with fail
  refine HN.out.mono ?_
  rintro e w1 ⟨rfl, hrd, hg⟩
  have H9' : Hid (CellsAt w1 c9 #[.pointer (some ⟨r, 0, none⟩)] 70) := (hg.block c9 H9.out.lt (fun e => n1 (by injection e with e; exact e.symm))).trans H9.out
  have H10' : Hid (CellsAt w1 c10 #[.bool bad] 4) := (hg.block c10 H10.out.lt (fun e => n2 (by injection e with e; exact e.symm))).trans H10.out
  have HRD := Lib.hid hrd
  have HG := Lib.hid hg
  clear hrd hg p0 pf H9 H10
  obtain ⟨q0, qf⟩ := H10'.out.one
  have fin : ∀ v : Bool, v = bad → NTake w c9 r c10 (V : Nat) T bad (.returned (.int .u64 (V : Nat))) (w1.setCell ⟨c10, 0, none⟩ (.bool v)) := fun v hv => by
    subst hv
    exact ⟨rfl, ⟨H9'.out.setOther (p := ⟨c10, 0, none⟩) n3 _, (Below.heap_setCell w1 _ _ r n2).trans HRD.out, H10'.out.set _, n1, n2, n3⟩, (grownBy_X HG.out (Or.inl rfl)).trans (setCell_X w1 _ _ (Or.inr rfl))⟩
  have FIN := Lib.hid fin
  clear fin
  cases bad
  · go_wp2_with fail
    go_ret
    exact FIN.out false rfl
  · go_wp2_with fail
    go_ret
    exact FIN.out true rfl

set_option maxRecDepth 100000 in
set_option maxHeartbeats 2000000 in
theorem ntake_no (c9 r c10 : Nat) (s : ByteArray) (size : Nat) (bad : Bool) (w : World) (h : DecAt w c9 r c10 s bad) (s0 : 1 ≤ size) (s1 : size ≤ 8) (hs : s.size < size) (hm : (s.size : Int) ≤ 9223372036854775807) {z : Int} (hz : (size : Int) = z) :
    Calls Try.prog 53 #[.int .i64 z, .pointer (some ⟨c9, 0, none⟩), .pointer (some ⟨c10, 0, none⟩)] w (NTake w c9 r c10 0 s true) := by
  subst hz
  obtain ⟨h9, hr, h10, n1, n2, n3⟩ := h
  obtain ⟨p0, pf⟩ := h9.one
  have HN := Lib.hid (number_short r s size w hr s0 s1 hs hm)
  have H9 := Lib.hid h9
  have H10 := Lib.hid h10
  clear h9 h10 hr
  go_enter Try.func53, Try.ntmps53
  go_wp2_with fail
  refine HN.out.mono ?_
  rintro e w1 ⟨rfl, hrd, hg⟩
  have H9' : Hid (CellsAt w1 c9 #[.pointer (some ⟨r, 0, none⟩)] 70) := (hg.block c9 H9.out.lt (fun e => n1 (by injection e with e; exact e.symm))).trans H9.out
  have H10' : Hid (CellsAt w1 c10 #[.bool bad] 4) := (hg.block c10 H10.out.lt (fun e => n2 (by injection e with e; exact e.symm))).trans H10.out
  have HRD := Lib.hid hrd
  have HG := Lib.hid hg
  clear hrd hg p0 pf H9 H10
  obtain ⟨q0, qf⟩ := H10'.out.one
  have fin : NTake w c9 r c10 0 s true (.returned (.int .u64 0)) (w1.setCell ⟨c10, 0, none⟩ (.bool true)) :=
    ⟨rfl, ⟨H9'.out.setOther (p := ⟨c10, 0, none⟩) n3 _, (Below.heap_setCell w1 _ _ r n2).trans HRD.out, H10'.out.set _, n1, n2, n3⟩, (grownBy_X HG.out (Or.inl rfl)).trans (setCell_X w1 _ _ (Or.inr rfl))⟩
  have FIN := Lib.hid fin
  clear fin
  cases bad
  · go_wp2_with fail
    go_ret
    exact FIN.out
  · go_wp2_with fail
    go_ret
    exact FIN.out

end Go.Proofs.Ytocbacpbckejdaa
