/-
  Empty lists of communities laid. Conditions: none.
-/
import Derived.Test.YtkcojblflebomaaGreatAbF
set_option linter.unusedVariables false
set_option linter.unusedSimpArgs false
namespace Go.Proofs.YtkcojblflebomaaGreat
open Go.RowKit Go.MapKept Go.Shelf
open Go.Lib hiding intOf

set_option maxHeartbeats 4000000 in
theorem lay0_m (A : Option Addr) (c : Nat) (f g : Value) (w : World) : Calls Tryz.prog 98 #[.slice A 0 c, f, g] w fun e w' => e = .returned (.tuple #[.string (bts []), .int .i64 0]) ∧ w = w' := by
  go_enter Tryz.func98, Tryz.ntmps98
  go_wp2_with fail
  refine wp_loop_rounds 1 ?_
  rw [rounds_succ]
  go_wp2_with fail
  go_ret2
  exact ⟨rfl, rfl⟩
theorem enc0_m (A : Option Addr) (c : Nat) (w : World) : Calls Tryz.prog 52 #[.slice A 0 c] w fun e w' => e = .returned (.tuple #[.string (bts []), .int .i64 0]) ∧ Below w.heap.size w w' := by
  have HL := Lib.hid lay0_m
  go_enter Tryz.func52, Tryz.ntmps52
  go_wp2_with fail
  refine (HL.out A c _ _ _).mono ?_
  rintro e w1 ⟨rfl, rfl⟩
  go_wp2_with fail
  go_ret2
  exact ⟨rfl, Below.refl _ _⟩
set_option maxHeartbeats 4000000 in
theorem lay0_x (A : Option Addr) (c : Nat) (f g : Value) (w : World) : Calls Tryz.prog 101 #[.slice A 0 c, f, g] w fun e w' => e = .returned (.tuple #[.string (bts []), .int .i64 0]) ∧ w = w' := by
  go_enter Tryz.func101, Tryz.ntmps101
  go_wp2_with fail
  refine wp_loop_rounds 1 ?_
  rw [rounds_succ]
  go_wp2_with fail
  go_ret2
  exact ⟨rfl, rfl⟩
theorem enc0_x (A : Option Addr) (c : Nat) (w : World) : Calls Tryz.prog 53 #[.slice A 0 c] w fun e w' => e = .returned (.tuple #[.string (bts []), .int .i64 0]) ∧ Below w.heap.size w w' := by
  have HL := Lib.hid lay0_x
  go_enter Tryz.func53, Tryz.ntmps53
  go_wp2_with fail
  refine (HL.out A c _ _ _).mono ?_
  rintro e w1 ⟨rfl, rfl⟩
  go_wp2_with fail
  go_ret2
  exact ⟨rfl, Below.refl _ _⟩
set_option maxHeartbeats 4000000 in
theorem lay0_l (A : Option Addr) (c : Nat) (f g : Value) (w : World) : Calls Tryz.prog 103 #[.slice A 0 c, f, g] w fun e w' => e = .returned (.tuple #[.string (bts []), .int .i64 0]) ∧ w = w' := by
  go_enter Tryz.func103, Tryz.ntmps103
  go_wp2_with fail
  refine wp_loop_rounds 1 ?_
  rw [rounds_succ]
  go_wp2_with fail
  go_ret2
  exact ⟨rfl, rfl⟩
theorem enc0_l (A : Option Addr) (c : Nat) (w : World) : Calls Tryz.prog 54 #[.slice A 0 c] w fun e w' => e = .returned (.tuple #[.string (bts []), .int .i64 0]) ∧ Below w.heap.size w w' := by
  have HL := Lib.hid lay0_l
  go_enter Tryz.func54, Tryz.ntmps54
  go_wp2_with fail
  refine (HL.out A c _ _ _).mono ?_
  rintro e w1 ⟨rfl, rfl⟩
  go_wp2_with fail
  go_ret2
  exact ⟨rfl, Below.refl _ _⟩
theorem enc_none {a : Atr} (h1 : a.comms = []) (h2 : a.exts = []) (h3 : a.larges = []) : EncSpec a := by
  refine ⟨fun W _ => ?_, fun W _ => ?_, fun W _ => ?_⟩
  · rw [h1]; exact enc0_m _ _ _
  · rw [h2]; exact enc0_x _ _ _
  · rw [h3]; exact enc0_l _ _ _
end Go.Proofs.YtkcojblflebomaaGreat
