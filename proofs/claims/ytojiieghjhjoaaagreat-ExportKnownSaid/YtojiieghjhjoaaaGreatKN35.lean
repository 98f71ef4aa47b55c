/-
  Several texts in one.
-/
import Derived.Test.YtojiieghjhjoaaaGreatKN34
import Derived.Test.YtojiieghjhjoaaaGreatKN15
set_option linter.unusedVariables false
set_option linter.unusedSimpArgs false
namespace Go.Proofs.YtojiieghjhjoaaaGreat
open Go.RowKit Go.MapKept Go.Shelf
open Go.Lib hiding intOf

def Atr.alone (a : Atr) : Atr := { a with hasOrig := false, orig := 0, kA := none, clus := [], kC := 0 }
def Atr.prefd (a : Atr) : Atr := { a with hasPref := true, pref := if a.hasPref = true then a.pref else 100 }
theorem AtO.box {w w' : World} {base b : Nat} {a : Atr} {cs : Array Value} (h : AtO w base a) (hg : w.grownBy w' (some b)) (hc : CellsAt w b cs 33) : AtO w' base a :=
  { h with path := h.path.off hg hc (by decide) (by decide), comms := h.comms.off hg hc (by decide), exts := h.exts.off hg hc (by decide), larges := h.larges.off hg hc (by decide), clus := h.clus.off hg hc (by decide) }
theorem ClT.box {w w' : World} {base b : Nat} {a : Atr} {cs : Array Value} (h : ClT w base a) (hg : w.grownBy w' (some b)) (hc : CellsAt w b cs 33) : ClT w' base a := ⟨h.own.box hg hc, h.apart⟩
theorem AtO.alone {w : World} {base : Nat} {a : Atr} (h : AtO w base a) : AtO w base a.alone :=
  { path := h.path, comms := h.comms, exts := h.exts, larges := h.larges, clus := OwnL.nil _ _ _ _ _, next := h.next, mfit := h.mfit, xfit := h.xfit, lfit := h.lfit, kfit := (fun n hn => by cases hn), ofit := h.ofit, nfit := ⟨h.nfit.1, h.nfit.2.1, h.nfit.2.2.1, h.nfit.2.2.2.1, by show (0 : Nat) < _; decide⟩ }
theorem AtO.prefd {w : World} {base : Nat} {a : Atr} (h : AtO w base a) : AtO w base a.prefd :=
  { path := h.path, comms := h.comms, exts := h.exts, larges := h.larges, clus := h.clus, next := h.next, mfit := h.mfit, xfit := h.xfit, lfit := h.lfit, kfit := h.kfit, ofit := h.ofit, nfit := ⟨h.nfit.1, by
    show (if a.hasPref = true then a.pref else 100) < _
    split
    · exact h.nfit.2.1
    · decide, h.nfit.2.2⟩ }
/-- a function that turns the attributes in a box -/
def Turns (w : World) (b : Nat) (a' : Atr) (e : Ending) (w' : World) : Prop := e = .returned (.tuple #[]) ∧ CellsAt w' b a'.ar 33 ∧ w.grownBy w' (some b)
theorem alone_any (a : Atr) (b : Nat) (w : World) (h : CellsAt w b a.ar 33) : Calls Tryz.prog 99 #[.pointer (some ⟨b, 0, none⟩)] w (Turns w b a.alone) := by
  have HS : Hid (CellsAt (((w.setCell ⟨b, 13, none⟩ (.bool false)).setCell ⟨b, 14, none⟩ (.int .u32 0)).setCell ⟨b, 15, none⟩ (.slice none 0 0)) b a.alone.ar 33) := ((h.setAt 13 _).setAt 14 _).setAt 15 _
  have HG : Hid (w.grownBy (((w.setCell ⟨b, 13, none⟩ (.bool false)).setCell ⟨b, 14, none⟩ (.int .u32 0)).setCell ⟨b, 15, none⟩ (.slice none 0 0)) (some b)) := grown_trans (grown_trans (grown_setCell w _ _) (grown_setCell _ ⟨b, 14, none⟩ _)) (grown_setCell _ ⟨b, 15, none⟩ _)
  obtain ⟨c0, c1, c2, c3, c4, c5, c6, c7, c8, c9, c10, c11, c12, c13, c14, c15⟩ := atr_cells h
  have f13 := h.unfrozen 13
  have f14 := h.unfrozen 14
  have f15 := h.unfrozen 15
  clear h
  go_enter Tryz.func99, Tryz.ntmps99
  go_wp2_with fail
  go_end0
  exact ⟨rfl, HS.out, HG.out⟩
theorem preferred_any (a : Atr) (b : Nat) (w : World) (h : CellsAt w b a.ar 33) : Calls Tryz.prog 101 #[.pointer (some ⟨b, 0, none⟩)] w (Turns w b a.prefd) := by
  obtain ⟨c0, c1, c2, c3, c4, c5, c6, c7, c8, c9, c10, c11, c12, c13, c14, c15⟩ := atr_cells h
  have f5 := h.unfrozen 5
  have f6 := h.unfrozen 6
  cases hp : a.hasPref with
  | true =>
    have e : a.prefd = a := by unfold Atr.prefd; rw [hp]; cases a; cases hp; rfl
    rw [e]
    have HH := Lib.hid h
    rw [hp] at c5
    clear h hp e
    go_enter Tryz.func101, Tryz.ntmps101
    go_wp2_with fail
    go_end0
    exact ⟨rfl, HH.out, grown_refl _ _⟩
  | false =>
    have HS : Hid (CellsAt ((w.setCell ⟨b, 5, none⟩ (.bool true)).setCell ⟨b, 6, none⟩ (.int .u32 100)) b a.prefd.ar 33) := by
      have h2 := (h.setAt 5 (.bool true)).setAt 6 (.int .u32 100)
      show CellsAt _ _ _ _
      unfold Atr.prefd
      rw [hp]
      exact h2
    have HG : Hid (w.grownBy ((w.setCell ⟨b, 5, none⟩ (.bool true)).setCell ⟨b, 6, none⟩ (.int .u32 100)) (some b)) := grown_trans (grown_setCell w _ _) (grown_setCell _ ⟨b, 6, none⟩ _)
    rw [hp] at c5
    clear h hp
    go_enter Tryz.func101, Tryz.ntmps101
    go_wp2_with fail
    go_end0
    exact ⟨rfl, HS.out, HG.out⟩
end Go.Proofs.YtojiieghjhjoaaaGreat
