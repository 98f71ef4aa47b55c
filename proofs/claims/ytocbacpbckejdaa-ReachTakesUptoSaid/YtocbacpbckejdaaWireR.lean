/-
  Contract of wire.Reader.Rest. Conditions: the reader is known.
-/
import Derived.Test.YtocbacpbckejdaaWireA
set_option linter.unusedVariables false
set_option linter.unusedSimpArgs false
namespace Go.Proofs.Ytocbacpbckejdaa
open Go.RowKit

theorem rest_any (b : Nat) (s : ByteArray) (w : World) (h : RdAt w b s) (hm : (s.size : Int) ≤ 9223372036854775807) :
    Calls Try.prog 41 #[.pointer (some ⟨b, 0, none⟩)] w fun e w' => e = .returned (.string s) ∧ w' = w.setCell ⟨b, 1, none⟩ (.string ByteArray.empty) := by
  have H := Lib.hid h
  clear h
  go_enter Try.func41, Try.ntmps41
  go_wp2_with fail
  refine (left_any b s _ H.out).mono ?_
  rintro e w' ⟨rfl, rfl⟩
  go_wp2_with fail
  refine (take_ok b s _ _ H.out (by omega) (by omega) hm).mono ?_
  rintro e w' ⟨rfl, rfl⟩
  go_wp2_with fail
  go_ret
  exact ⟨by simp, by simp⟩


end Go.Proofs.Ytocbacpbckejdaa
