/-
  Contract of heraldref08.ahead; a string's head as bytes. Conditions: none.
-/
import Derived.Test.YtocbacpbckejdaaNlY
import Derived.BigRegion
set_option linter.unusedVariables false
set_option linter.unusedSimpArgs false
namespace Go.Proofs.Ytocbacpbckejdaa
open Go.RowKit

theorem ext_bts (b : ByteArray) (k : Nat) : b.extract 0 k = bts (b.data.toList.take k) := by
  have h := bts_extract b.data.toList 0 k
  rwa [bts_self, List.drop_zero, Nat.sub_zero] at h
def zS (f : Int) : ByteArray := if f = 4 ∨ f = 5 then ⟨#[0, 0, 0, 0, 0, 0, 0, 0]⟩ else ⟨#[]⟩
def sV (f : Int) : Int := if f = 2 ∨ f = 5 then 16 else 4
set_option maxRecDepth 100000 in
theorem rahead8_any (f : Int) (w : World) : Calls Try.prog 33 #[.int .i64 f] w fun e w' => e = .returned (.tuple #[.string (zS f), .int .i64 (sV f)]) ∧ w' = w := by
  by_cases h2 : f = 2
  · subst h2
    go_enter Try.func33, Try.ntmps33
    go_wp2
    go_ret2
    exact ⟨rfl, rfl⟩
  by_cases h4 : f = 4
  · subst h4
    go_enter Try.func33, Try.ntmps33
    go_wp2
    go_ret2
    exact ⟨rfl, rfl⟩
  by_cases h5 : f = 5
  · subst h5
    go_enter Try.func33, Try.ntmps33
    go_wp2
    go_ret2
    exact ⟨rfl, rfl⟩
  have hz : Hid (zS f = ⟨#[]⟩) := if_neg (by omega)
  have hs : Hid (sV f = 4) := if_neg (by omega)
  have e2 : (f == 2) = false := beq_eq_false_iff_ne.2 h2
  have e4 : (f == 4) = false := beq_eq_false_iff_ne.2 h4
  have e5 : (f == 5) = false := beq_eq_false_iff_ne.2 h5
  clear h2 h4 h5
  go_enter Try.func33, Try.ntmps33
  go_wp2
  go_ret2
  exact ⟨ret2 (val_str hz.out.symm) (val_int hs.out.symm), rfl⟩
theorem zS_eq {f : Int} (h1 : 1 ≤ f) (h2 : f ≤ 5) : zS f = ⟨(List.replicate (zeroV f).toNat 0).toArray⟩ ∧ sV f = sizeV f ∧ ((zS f).size : Int) = zeroV f := by
  rcases fam_five h1 h2 with rfl | rfl | rfl | rfl | rfl <;> exact ⟨rfl, rfl, rfl⟩
end Go.Proofs.Ytocbacpbckejdaa
