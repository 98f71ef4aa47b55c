/-
  Contracts of package wire: New, Take, Left, Rest. Conditions: the reader's block is known.
-/
import Derived.Test.YtkcojblflebomaaGreatBase
import Derived.Handy
import Derived.WalkSpells
import Derived.WalkLawsBesides
import Derived.LoopTactic
import Derived.Deep.QuietTactic
import Derived.BigQuiet
set_option linter.unusedVariables false
set_option linter.unusedSimpArgs false
namespace Go.Proofs.YtkcojblflebomaaGreat
open Go.RowKit

/-- block b is a reader with s left -/
def RdAt (w : World) (b : Nat) (s : ByteArray) : Prop := w.heap[b]? = some (.cells #[.bool true, .string s] 110 (0, 0))
theorem RdAt.lt {w : World} {b : Nat} {s : ByteArray} (h : RdAt w b s) : b < w.heap.size := by
  rcases Nat.lt_or_ge b w.heap.size with hlt | hge
  · exact hlt
  · unfold RdAt at h; rw [Array.getElem?_eq_none hge] at h; cases h
theorem RdAt.c0 {w : World} {b : Nat} {s : ByteArray} (h : RdAt w b s) : w.cell? ⟨b, 0, none⟩ = some (.bool true) := (cell_of_row w b 0 _ _ _ h).trans rfl
theorem RdAt.c1 {w : World} {b : Nat} {s : ByteArray} (h : RdAt w b s) : w.cell? ⟨b, 1, none⟩ = some (.string s) := (cell_of_row w b 1 _ _ _ h).trans rfl
theorem RdAt.fz {w : World} {b : Nat} {s : ByteArray} (h : RdAt w b s) (i : Nat) : w.frozen? ⟨b, i, none⟩ = false := by
  unfold RdAt at h
  simp [World.frozen?, h]
theorem RdAt.set {w : World} {b : Nat} {s : ByteArray} (h : RdAt w b s) (t : ByteArray) : RdAt (w.setCell ⟨b, 1, none⟩ (.string t)) b t := by
  unfold RdAt at h ⊢
  simp [World.setCell, Array.getElem?_modify, h]
theorem RdAt.grown {w w' : World} {b : Nat} {s : ByteArray} (h : RdAt w b s) (hg : w.grownBy w' none) : RdAt w' b s := (hg.block b h.lt (by simp)).trans h
theorem RdAt.below {w w' : World} {b B : Nat} {s : ByteArray} (h : RdAt w b s) (hg : Below B w w') (hb : b < B) : RdAt w' b s := (hg.block b hb).trans h

theorem new_any (s : ByteArray) (w : World) :
    Calls Tryz.prog 33 #[.string s] w fun e w' => e = .returned (.pointer (some ⟨w.heap.size, 0, none⟩)) ∧ w' = w.alloc (.cells #[.bool true, .string s] 110) := by
  go_enter Tryz.func33, Tryz.ntmps33
  go_wp2
  go_ret
  exact ⟨rfl, rfl⟩

theorem take_ok (b : Nat) (s : ByteArray) (n : Int) (w : World) (h : RdAt w b s) (h0 : 0 ≤ n) (h1 : n ≤ s.size) (hm : (s.size : Int) ≤ 9223372036854775807) :
    Calls Tryz.prog 36 #[.pointer (some ⟨b, 0, none⟩), .int .i64 n] w fun e w' => e = .returned (.tuple #[.string (s.extract 0 n.toNat), .bool true]) ∧ w' = w.setCell ⟨b, 1, none⟩ (.string (s.extract n.toNat s.size)) := by
  have c0 := h.c0
  have c1 := h.c1
  have f1 := h.fz 1
  clear h
  go_enter Tryz.func36, Tryz.ntmps36
  go_wp2
  go_ret2
  exact ⟨rfl, rfl⟩

theorem take_no (b : Nat) (s : ByteArray) (n : Int) (w : World) (h : RdAt w b s) (h1 : n < 0 ∨ s.size < n) (hm : (s.size : Int) ≤ 9223372036854775807) :
    Calls Tryz.prog 36 #[.pointer (some ⟨b, 0, none⟩), .int .i64 n] w fun e w' => e = .returned (.tuple #[.string ByteArray.empty, .bool false]) ∧ w' = w := by
  have c0 := h.c0
  have c1 := h.c1
  clear h
  rcases h1 with h1 | h1
  · go_enter Tryz.func36, Tryz.ntmps36
    go_wp2
    go_ret2
    exact ⟨rfl, rfl⟩
  · have h0 : ¬ n < 0 := by omega
    go_enter Tryz.func36, Tryz.ntmps36
    go_wp2
    go_ret2
    exact ⟨rfl, rfl⟩

theorem left_any (b : Nat) (s : ByteArray) (w : World) (h : RdAt w b s) :
    Calls Tryz.prog 34 #[.pointer (some ⟨b, 0, none⟩)] w fun e w' => e = .returned (.int .i64 s.size) ∧ w' = w := by
  have c1 := h.c1
  clear h
  go_enter Tryz.func34, Tryz.ntmps34
  go_wp2
  go_ret
  exact ⟨rfl, rfl⟩

end Go.Proofs.YtkcojblflebomaaGreat
