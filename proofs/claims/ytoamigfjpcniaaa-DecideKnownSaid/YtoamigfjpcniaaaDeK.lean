/-
  The steps; the best one. Conditions: sizes.
-/
import Derived.Test.YtoamigfjpcniaaaDeJ
set_option linter.unusedVariables false
set_option linter.unusedSimpArgs false
namespace Go.Proofs.Ytoamigfjpcniaaa
open Go.RowKit Go.MapKept Go.Shelf
open Go.Lib hiding intOf

def c1 (x y : En) : Int := Lib.compareInt (degF y.p) (degF x.p)
def c2 (x y : En) : Int := Lib.compareInt (locF x.p) (locF y.p)
def c3 (x y : En) : Int := Lib.compareInt (lenF x.p.segs) (lenF y.p.segs)
def c4 (x y : En) : Int := Lib.compareInt x.p.origin y.p.origin
def c5 (x y : En) : Int := Lib.compareInt (rankF x.p) (rankF y.p)
def c6 (x y : En) : Int := Lib.compareInt x.cost y.cost
def c7 (x y : En) : Int := Lib.compareInt (identF x.p) (identF y.p)
def c8 (x y : En) : Int := Lib.compareInt x.p.clus.length y.p.clus.length
def c9 (x y : En) : Int := orF (Lib.compareInt x.p.addr.size y.p.addr.size) (Lib.compareBytes x.p.addr.data.toList y.p.addr.data.toList)
def c10 (x y : En) : Int := Lib.compareBytes x.p.peer.data.toList y.p.peer.data.toList
def c11 (x y : En) : Int := Lib.compareInt x.p.id y.p.id
theorem ok1 : OrdOk 55 c1 := ⟨enters Try.func55 (by kernel_rfl) rfl, fun x y w hx hy => ord1_any x y w⟩
theorem ok2 : OrdOk 57 c2 := ⟨enters Try.func57 (by kernel_rfl) rfl, fun x y w hx hy => ord2_any x y w⟩
theorem ok3 : OrdOk 60 c3 := ⟨enters Try.func60 (by kernel_rfl) rfl, fun x y w hx hy => ord3_any x y w hx hy⟩
theorem ok4 : OrdOk 61 c4 := ⟨enters Try.func61 (by kernel_rfl) rfl, fun x y w hx hy => ord4_any x y w⟩
theorem ok5 : OrdOk 63 c5 := ⟨enters Try.func63 (by kernel_rfl) rfl, fun x y w hx hy => ord5_any x y w⟩
theorem ok6 : OrdOk 65 c6 := ⟨enters Try.func65 (by kernel_rfl) rfl, fun x y w hx hy => ord6_any x y w⟩
theorem ok7 : OrdOk 66 c7 := ⟨enters Try.func66 (by kernel_rfl) rfl, fun x y w hx hy => ord7_any x y w⟩
theorem ok8 : OrdOk 68 c8 := ⟨enters Try.func68 (by kernel_rfl) rfl, fun x y w hx hy => ord8_any x y w hx hy⟩
theorem ok9 : OrdOk 69 c9 := ⟨enters Try.func69 (by kernel_rfl) rfl, fun x y w hx hy => ord9_any x y w⟩
theorem ok10 : OrdOk 72 c10 := ⟨enters Try.func72 (by kernel_rfl) rfl, fun x y w hx hy => ord10_any x y w⟩
theorem ok11 : OrdOk 73 c11 := ⟨enters Try.func73 (by kernel_rfl) rfl, fun x y w hx hy => ord11_any x y w⟩

/-- by: a step of an order -/
theorem by_any (F : Nat) (w : World) : Calls Try.prog 54 #[.func (.func F) #[] #[]] w fun e w' => e = .returned (.func (.func 87) #[] #[.pointer (some ⟨w.heap.size, 0, none⟩)]) ∧ w' = w.alloc (.cells #[.func (.func F) #[] #[]] 105) := by
  go_enter Try.func54, Try.ntmps54
  go_wp2_with fail
  go_ret
  exact ⟨rfl, rfl⟩
/-- .. and what it does -/
theorem by1_any (A : Option Addr) (cap : Nat) (xs : List En) (F b : Nat) (c : En → En → Int) (w : World) (h : EsAt w A cap xs) (hF : OrdOk F c) (hxs : xs.length ≤ 1000000) (hb : CellsAt w b #[.func (.func F) #[] #[]] 105) :
    Calls Try.prog 87 #[.slice A xs.length cap, .pointer (some ⟨b, 0, none⟩)] w fun e w' => ∃ v, e = .returned v ∧ EsOwn w' w.heap.size v (leastL c xs) ∧ Below w.heap.size w w' := by
  have HL := Lib.hid (least_any A cap xs F c w h hF hxs)
  have h0 := hb.c1
  clear h hF hb
  go_enter Try.func87, Try.ntmps87
  go_wp2_with fail
  refine HL.out.mono ?_
  rintro e w1 ⟨v, rfl, hv, hb⟩
  go_wp2_with fail
  go_ret
  exact ⟨v, rfl, hv, hb⟩
/-- a step, as a value -/
def StepOk (w : World) (f : Value) (S : List En → List En) : Prop := ∃ F C, f = .func (.func F) #[] C ∧ Enters F ∧ ∀ (w' : World) (A : Option Addr) (cap : Nat) (xs : List En), Below w.heap.size w w' → EsAt w' A cap xs → xs.length ≤ 1000000 →
  Calls Try.prog F (#[.slice A xs.length cap] ++ C) w' fun e w'' => ∃ v, e = .returned v ∧ EsOwn w'' w'.heap.size v (S xs) ∧ Below w'.heap.size w' w''
theorem StepOk.below {w w1 : World} {f : Value} {S : List En → List En} (h : StepOk w f S) (hb : Below w.heap.size w w1) : StepOk w1 f S := by
  obtain ⟨F, C, e, he, hc⟩ := h
  exact ⟨F, C, e, he, fun w' A cap xs h1 => hc w' A cap xs (hb.trans (h1.mono hb.size))⟩
theorem step_by {w : World} {F b : Nat} {c : En → En → Int} (hF : OrdOk F c) (hb : CellsAt w b #[.func (.func F) #[] #[]] 105) : StepOk w (.func (.func 87) #[] #[.pointer (some ⟨b, 0, none⟩)]) (leastL c) :=
  ⟨_, _, rfl, enters Try.func87 (by kernel_rfl) rfl, fun w' A cap xs h1 h2 h3 => by1_any A cap xs F b c w' h2 hF h3 (hb.below h1 hb.lt)⟩
theorem step_med (w : World) : StepOk w (.func (.func 62) #[] #[]) byMedL :=
  ⟨_, _, rfl, enters Try.func62 (by kernel_rfl) rfl, fun w' A cap xs h1 h2 h3 => byMed_any A cap xs w' h2 h3⟩
/-- the twelve -/
def stepS : List (List En → List En) := [leastL c1, leastL c2, leastL c3, leastL c4, byMedL, leastL c5, leastL c6, leastL c7, leastL c8, leastL c9, leastL c10, leastL c11]

def stepV (n : Nat) : Array Value := #[.func (.func 87) #[] #[.pointer (some ⟨n + 0, 0, none⟩)], .func (.func 87) #[] #[.pointer (some ⟨n + 1, 0, none⟩)], .func (.func 87) #[] #[.pointer (some ⟨n + 2, 0, none⟩)], .func (.func 87) #[] #[.pointer (some ⟨n + 3, 0, none⟩)], .func (.func 62) #[] #[], .func (.func 87) #[] #[.pointer (some ⟨n + 4, 0, none⟩)], .func (.func 87) #[] #[.pointer (some ⟨n + 5, 0, none⟩)], .func (.func 87) #[] #[.pointer (some ⟨n + 6, 0, none⟩)], .func (.func 87) #[] #[.pointer (some ⟨n + 7, 0, none⟩)], .func (.func 87) #[] #[.pointer (some ⟨n + 8, 0, none⟩)], .func (.func 87) #[] #[.pointer (some ⟨n + 9, 0, none⟩)], .func (.func 87) #[] #[.pointer (some ⟨n + 10, 0, none⟩)]]
set_option maxHeartbeats 4000000 in
theorem steps_any (w : World) : Calls Try.prog 44 #[] w fun e w' => ∃ b, e = .returned (.slice (some ⟨b, 0, none⟩) 12 12) ∧ Below w.heap.size w w' ∧ b < w'.heap.size ∧ ∀ (j : Nat) (S : List En → List En), stepS[j]? = some S → ∃ f, w'.cell? ⟨b, j, none⟩ = some f ∧ StepOk w' f S := by
  have B0 := Lib.hid (fun w => by_any 55 w)
  have B1 := Lib.hid (fun w => by_any 57 w)
  have B2 := Lib.hid (fun w => by_any 60 w)
  have B3 := Lib.hid (fun w => by_any 61 w)
  have B4 := Lib.hid (fun w => by_any 63 w)
  have B5 := Lib.hid (fun w => by_any 65 w)
  have B6 := Lib.hid (fun w => by_any 66 w)
  have B7 := Lib.hid (fun w => by_any 68 w)
  have B8 := Lib.hid (fun w => by_any 69 w)
  have B9 := Lib.hid (fun w => by_any 72 w)
  have B10 := Lib.hid (fun w => by_any 73 w)
  go_enter Try.func44, Try.ntmps44
  go_wp2_with fail
  refine (B0.out _).mono ?_
  rintro e w0 ⟨rfl, hw0⟩
  have HW0 := Lib.hid hw0
  clear hw0
  go_wp2_with fail
  refine (B1.out _).mono ?_
  rintro e w1 ⟨rfl, hw1⟩
  have HW1 := Lib.hid hw1
  clear hw1
  go_wp2_with fail
  refine (B2.out _).mono ?_
  rintro e w2 ⟨rfl, hw2⟩
  have HW2 := Lib.hid hw2
  clear hw2
  go_wp2_with fail
  refine (B3.out _).mono ?_
  rintro e w3 ⟨rfl, hw3⟩
  have HW3 := Lib.hid hw3
  clear hw3
  go_wp2_with fail
  refine (B4.out _).mono ?_
  rintro e w4 ⟨rfl, hw4⟩
  have HW4 := Lib.hid hw4
  clear hw4
  go_wp2_with fail
  refine (B5.out _).mono ?_
  rintro e w5 ⟨rfl, hw5⟩
  have HW5 := Lib.hid hw5
  clear hw5
  go_wp2_with fail
  refine (B6.out _).mono ?_
  rintro e w6 ⟨rfl, hw6⟩
  have HW6 := Lib.hid hw6
  clear hw6
  go_wp2_with fail
  refine (B7.out _).mono ?_
  rintro e w7 ⟨rfl, hw7⟩
  have HW7 := Lib.hid hw7
  clear hw7
  go_wp2_with fail
  refine (B8.out _).mono ?_
  rintro e w8 ⟨rfl, hw8⟩
  have HW8 := Lib.hid hw8
  clear hw8
  go_wp2_with fail
  refine (B9.out _).mono ?_
  rintro e w9 ⟨rfl, hw9⟩
  have HW9 := Lib.hid hw9
  clear hw9
  go_wp2_with fail
  refine (B10.out _).mono ?_
  rintro e w10 ⟨rfl, hw10⟩
  have HW10 := Lib.hid hw10
  clear hw10
  go_wp2_with fail
  go_ret
  have HF : Hid (CellsAt (w10.alloc (.cells #[.func (.func 87) #[] #[.pointer (some ⟨w.heap.size, 0, none⟩)], .func (.func 87) #[] #[.pointer (some ⟨w0.heap.size, 0, none⟩)], .func (.func 87) #[] #[.pointer (some ⟨w1.heap.size, 0, none⟩)], .func (.func 87) #[] #[.pointer (some ⟨w2.heap.size, 0, none⟩)], .func (.func 62) #[] #[], .func (.func 87) #[] #[.pointer (some ⟨w3.heap.size, 0, none⟩)], .func (.func 87) #[] #[.pointer (some ⟨w4.heap.size, 0, none⟩)], .func (.func 87) #[] #[.pointer (some ⟨w5.heap.size, 0, none⟩)], .func (.func 87) #[] #[.pointer (some ⟨w6.heap.size, 0, none⟩)], .func (.func 87) #[] #[.pointer (some ⟨w7.heap.size, 0, none⟩)], .func (.func 87) #[] #[.pointer (some ⟨w8.heap.size, 0, none⟩)], .func (.func 87) #[] #[.pointer (some ⟨w9.heap.size, 0, none⟩)]] 96)) w10.heap.size #[.func (.func 87) #[] #[.pointer (some ⟨w.heap.size, 0, none⟩)], .func (.func 87) #[] #[.pointer (some ⟨w0.heap.size, 0, none⟩)], .func (.func 87) #[] #[.pointer (some ⟨w1.heap.size, 0, none⟩)], .func (.func 87) #[] #[.pointer (some ⟨w2.heap.size, 0, none⟩)], .func (.func 62) #[] #[], .func (.func 87) #[] #[.pointer (some ⟨w3.heap.size, 0, none⟩)], .func (.func 87) #[] #[.pointer (some ⟨w4.heap.size, 0, none⟩)], .func (.func 87) #[] #[.pointer (some ⟨w5.heap.size, 0, none⟩)], .func (.func 87) #[] #[.pointer (some ⟨w6.heap.size, 0, none⟩)], .func (.func 87) #[] #[.pointer (some ⟨w7.heap.size, 0, none⟩)], .func (.func 87) #[] #[.pointer (some ⟨w8.heap.size, 0, none⟩)], .func (.func 87) #[] #[.pointer (some ⟨w9.heap.size, 0, none⟩)]] 96) := CellsAt.new _ _ _
  have D10 : Below w10.heap.size w10 (w10.alloc (.cells #[.func (.func 87) #[] #[.pointer (some ⟨w.heap.size, 0, none⟩)], .func (.func 87) #[] #[.pointer (some ⟨w0.heap.size, 0, none⟩)], .func (.func 87) #[] #[.pointer (some ⟨w1.heap.size, 0, none⟩)], .func (.func 87) #[] #[.pointer (some ⟨w2.heap.size, 0, none⟩)], .func (.func 62) #[] #[], .func (.func 87) #[] #[.pointer (some ⟨w3.heap.size, 0, none⟩)], .func (.func 87) #[] #[.pointer (some ⟨w4.heap.size, 0, none⟩)], .func (.func 87) #[] #[.pointer (some ⟨w5.heap.size, 0, none⟩)], .func (.func 87) #[] #[.pointer (some ⟨w6.heap.size, 0, none⟩)], .func (.func 87) #[] #[.pointer (some ⟨w7.heap.size, 0, none⟩)], .func (.func 87) #[] #[.pointer (some ⟨w8.heap.size, 0, none⟩)], .func (.func 87) #[] #[.pointer (some ⟨w9.heap.size, 0, none⟩)]] 96)) := (Below.refl _ _).alloc (Nat.le_refl _) _
  generalize w10.alloc (.cells #[.func (.func 87) #[] #[.pointer (some ⟨w.heap.size, 0, none⟩)], .func (.func 87) #[] #[.pointer (some ⟨w0.heap.size, 0, none⟩)], .func (.func 87) #[] #[.pointer (some ⟨w1.heap.size, 0, none⟩)], .func (.func 87) #[] #[.pointer (some ⟨w2.heap.size, 0, none⟩)], .func (.func 62) #[] #[], .func (.func 87) #[] #[.pointer (some ⟨w3.heap.size, 0, none⟩)], .func (.func 87) #[] #[.pointer (some ⟨w4.heap.size, 0, none⟩)], .func (.func 87) #[] #[.pointer (some ⟨w5.heap.size, 0, none⟩)], .func (.func 87) #[] #[.pointer (some ⟨w6.heap.size, 0, none⟩)], .func (.func 87) #[] #[.pointer (some ⟨w7.heap.size, 0, none⟩)], .func (.func 87) #[] #[.pointer (some ⟨w8.heap.size, 0, none⟩)], .func (.func 87) #[] #[.pointer (some ⟨w9.heap.size, 0, none⟩)]] 96) = W at HF D10 ⊢
  have b0 : Below w.heap.size w w0 := by rw [HW0.out]; exact (Below.refl _ _).alloc (Nat.le_refl _) _
  have E0 : CellsAt w0 w.heap.size #[.func (.func 55) #[] #[]] 105 := by rw [HW0.out]; exact CellsAt.new _ _ _
  have b1 : Below w0.heap.size w0 w1 := by rw [HW1.out]; exact (Below.refl _ _).alloc (Nat.le_refl _) _
  have E1 : CellsAt w1 w0.heap.size #[.func (.func 57) #[] #[]] 105 := by rw [HW1.out]; exact CellsAt.new _ _ _
  have b2 : Below w1.heap.size w1 w2 := by rw [HW2.out]; exact (Below.refl _ _).alloc (Nat.le_refl _) _
  have E2 : CellsAt w2 w1.heap.size #[.func (.func 60) #[] #[]] 105 := by rw [HW2.out]; exact CellsAt.new _ _ _
  have b3 : Below w2.heap.size w2 w3 := by rw [HW3.out]; exact (Below.refl _ _).alloc (Nat.le_refl _) _
  have E3 : CellsAt w3 w2.heap.size #[.func (.func 61) #[] #[]] 105 := by rw [HW3.out]; exact CellsAt.new _ _ _
  have b4 : Below w3.heap.size w3 w4 := by rw [HW4.out]; exact (Below.refl _ _).alloc (Nat.le_refl _) _
  have E4 : CellsAt w4 w3.heap.size #[.func (.func 63) #[] #[]] 105 := by rw [HW4.out]; exact CellsAt.new _ _ _
  have b5 : Below w4.heap.size w4 w5 := by rw [HW5.out]; exact (Below.refl _ _).alloc (Nat.le_refl _) _
  have E5 : CellsAt w5 w4.heap.size #[.func (.func 65) #[] #[]] 105 := by rw [HW5.out]; exact CellsAt.new _ _ _
  have b6 : Below w5.heap.size w5 w6 := by rw [HW6.out]; exact (Below.refl _ _).alloc (Nat.le_refl _) _
  have E6 : CellsAt w6 w5.heap.size #[.func (.func 66) #[] #[]] 105 := by rw [HW6.out]; exact CellsAt.new _ _ _
  have b7 : Below w6.heap.size w6 w7 := by rw [HW7.out]; exact (Below.refl _ _).alloc (Nat.le_refl _) _
  have E7 : CellsAt w7 w6.heap.size #[.func (.func 68) #[] #[]] 105 := by rw [HW7.out]; exact CellsAt.new _ _ _
  have b8 : Below w7.heap.size w7 w8 := by rw [HW8.out]; exact (Below.refl _ _).alloc (Nat.le_refl _) _
  have E8 : CellsAt w8 w7.heap.size #[.func (.func 69) #[] #[]] 105 := by rw [HW8.out]; exact CellsAt.new _ _ _
  have b9 : Below w8.heap.size w8 w9 := by rw [HW9.out]; exact (Below.refl _ _).alloc (Nat.le_refl _) _
  have E9 : CellsAt w9 w8.heap.size #[.func (.func 72) #[] #[]] 105 := by rw [HW9.out]; exact CellsAt.new _ _ _
  have b10 : Below w9.heap.size w9 w10 := by rw [HW10.out]; exact (Below.refl _ _).alloc (Nat.le_refl _) _
  have E10 : CellsAt w10 w9.heap.size #[.func (.func 73) #[] #[]] 105 := by rw [HW10.out]; exact CellsAt.new _ _ _
  have D9 : Below w9.heap.size w9 W := b10.trans (D10.mono b10.size)
  have D8 : Below w8.heap.size w8 W := b9.trans (D9.mono b9.size)
  have D7 : Below w7.heap.size w7 W := b8.trans (D8.mono b8.size)
  have D6 : Below w6.heap.size w6 W := b7.trans (D7.mono b7.size)
  have D5 : Below w5.heap.size w5 W := b6.trans (D6.mono b6.size)
  have D4 : Below w4.heap.size w4 W := b5.trans (D5.mono b5.size)
  have D3 : Below w3.heap.size w3 W := b4.trans (D4.mono b4.size)
  have D2 : Below w2.heap.size w2 W := b3.trans (D3.mono b3.size)
  have D1 : Below w1.heap.size w1 W := b2.trans (D2.mono b2.size)
  have D0 : Below w0.heap.size w0 W := b1.trans (D1.mono b1.size)
  have D : Below w.heap.size w W := b0.trans (D0.mono b0.size)
  have hlt := HF.out.lt
  refine ⟨w10.heap.size, rfl, D, hlt, fun j S hS => ?_⟩
  match j, hS with
  | 0, hS =>
    obtain rfl : leastL c1 = S := Option.some.inj hS
    exact ⟨_, (HF.out.c 0).trans rfl, (step_by ok1 E0).below D0⟩
  | 1, hS =>
    obtain rfl : leastL c2 = S := Option.some.inj hS
    exact ⟨_, (HF.out.c 1).trans rfl, (step_by ok2 E1).below D1⟩
  | 2, hS =>
    obtain rfl : leastL c3 = S := Option.some.inj hS
    exact ⟨_, (HF.out.c 2).trans rfl, (step_by ok3 E2).below D2⟩
  | 3, hS =>
    obtain rfl : leastL c4 = S := Option.some.inj hS
    exact ⟨_, (HF.out.c 3).trans rfl, (step_by ok4 E3).below D3⟩
  | 4, hS =>
    obtain rfl : byMedL = S := Option.some.inj hS
    exact ⟨_, (HF.out.c 4).trans rfl, step_med W⟩
  | 5, hS =>
    obtain rfl : leastL c5 = S := Option.some.inj hS
    exact ⟨_, (HF.out.c 5).trans rfl, (step_by ok5 E4).below D4⟩
  | 6, hS =>
    obtain rfl : leastL c6 = S := Option.some.inj hS
    exact ⟨_, (HF.out.c 6).trans rfl, (step_by ok6 E5).below D5⟩
  | 7, hS =>
    obtain rfl : leastL c7 = S := Option.some.inj hS
    exact ⟨_, (HF.out.c 7).trans rfl, (step_by ok7 E6).below D6⟩
  | 8, hS =>
    obtain rfl : leastL c8 = S := Option.some.inj hS
    exact ⟨_, (HF.out.c 8).trans rfl, (step_by ok8 E7).below D7⟩
  | 9, hS =>
    obtain rfl : leastL c9 = S := Option.some.inj hS
    exact ⟨_, (HF.out.c 9).trans rfl, (step_by ok9 E8).below D8⟩
  | 10, hS =>
    obtain rfl : leastL c10 = S := Option.some.inj hS
    exact ⟨_, (HF.out.c 10).trans rfl, (step_by ok10 E9).below D9⟩
  | 11, hS =>
    obtain rfl : leastL c11 = S := Option.some.inj hS
    exact ⟨_, (HF.out.c 11).trans rfl, (step_by ok11 E10).below D10⟩
  | n + 12, hS => cases hS
end Go.Proofs.Ytoamigfjpcniaaa
