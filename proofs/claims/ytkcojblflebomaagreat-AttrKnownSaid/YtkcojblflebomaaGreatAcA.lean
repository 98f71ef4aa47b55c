/-
  Numbers as bytes by the reference; two lists of raw attributes alike. Conditions: sizes.
-/
import Derived.Test.YtkcojblflebomaaGreatAbD
import Derived.Test.YtkcojblflebomaaGreatAbA
import Derived.Test.YtkcojblflebomaaGreatAaK
import Derived.Test.YtkcojblflebomaaGreatAaN
import Derived.Test.YtkcojblflebomaaGreatWireCR
set_option linter.unusedVariables false
set_option linter.unusedSimpArgs false
namespace Go.Proofs.YtkcojblflebomaaGreat
open Go.RowKit Go.MapKept Go.Shelf
open Go.Lib hiding intOf

theorem rput_l (l : List UInt8) (v size : Nat) (w : World) (hb : l.length + 8 ≤ 140737488355328) (s0 : 1 ≤ size) (s1 : size ≤ 8) (hf : v < 2 ^ (8 * size)) (hv : v < 18446744073709551616) :
    Calls Tryz.prog 71 #[.string (bts l), .int .u64 (v : Nat), .int .i64 (size : Nat)] w fun e w' => e = .returned (.tuple #[.string (bts (l ++ beB v size size)), .int .i64 0]) ∧ Below w.heap.size w w' :=
  (rput_ok (bts l) v size w (by rw [bts_size]; exact hb) (by omega) (by omega) s0 s1 (fun _ => by
    rw [beq_iff_eq]
    have h2 : ((v / 2 ^ (8 * size) : Nat) : Int) = 0 := by rw [Nat.div_eq_of_lt hf]; rfl
    rw [← h2]
    simp)).mono fun e w' ⟨h1, h2⟩ => ⟨by rw [h1, Int.toNat_natCast, putS_bts], h2⟩
theorem rnum_any (v size : Nat) (w : World) (s0 : 1 ≤ size) (s1 : size ≤ 8) (hf : v < 2 ^ (8 * size)) (hv : v < 18446744073709551616) :
    Calls Tryz.prog 31 #[.int .u64 (v : Nat), .int .i64 (size : Nat)] w fun e w' => e = .returned (.string (bts (beB v size size))) ∧ Below w.heap.size w w' := by
  have HP : Hid (Calls Tryz.prog 71 #[.string ⟨#[]⟩, .int .u64 (v : Nat), .int .i64 (size : Nat)] w fun e w' => e = .returned (.tuple #[.string (bts (beB v size size)), .int .i64 0]) ∧ Below w.heap.size w w') := rput_l [] v size w (by decide) s0 s1 hf hv
  clear hf
  generalize bts (beB v size size) = s at HP ⊢
  go_enter Tryz.func31, Tryz.ntmps31
  go_wp2_with fail
  refine HP.out.mono ?_
  rintro e w1 ⟨rfl, hb⟩
  have HB := Lib.hid hb
  clear hb
  go_wp2_with fail
  go_ret
  exact ⟨rfl, HB.out⟩
theorem Rw.eq_iff {x y : Rw} : (x.f = y.f ∧ x.t = y.t ∧ x.v = y.v) ↔ x = y := by
  cases x
  cases y
  simp
instance : DecidableEq Rw := fun a b => decidable_of_iff _ (Rw.eq_iff (x := a) (y := b))
set_option maxRecDepth 100000 in
set_option maxHeartbeats 4000000 in
theorem rsraws_any (A B : Option Addr) (ca cb : Nat) (La Lb : List Rw) (w : World) (h1 : RwsOk w A ca La) (h2 : RwsOk w B cb Lb) :
    Calls Tryz.prog 15 #[.slice A La.length ca, .slice B Lb.length cb] w fun e w' => e = .returned (.bool (decide (La = Lb))) ∧ Below w.heap.size w w' := by
  have HA := Lib.hid h1
  have HB := Lib.hid h2
  have g1 := h1.len
  have g2 := h1.cap
  have g3 := h2.len
  have g4 := h2.cap
  clear h1 h2
  generalize hr : decide (La = Lb) = r
  have HR := Lib.hid hr
  clear hr
  go_enter Tryz.func15, Tryz.ntmps15
  by_cases hl : La.length = Lb.length
  case neg =>
    have HF : Hid (r = false) := by show _ = _; rw [← HR.out]; exact decide_eq_false (fun e => hl (by rw [e]))
    have z1 : ((La.length : Int) != (Lb.length : Int)) = true := bne_iff_ne.2 (by omega)
    have z2 : ((La.length : Int) == (Lb.length : Int)) = false := beq_eq_false_iff_ne.2 (by omega)
    clear hl
    go_wp2_with fail
    go_ret
    exact ⟨by rw [HF.out]; rfl, Below.refl _ _⟩
  have z1 : ((La.length : Int) != (Lb.length : Int)) = false := by rw [hl]; simp
  have z2 : ((La.length : Int) == (Lb.length : Int)) = true := by rw [hl]; simp
  have HL := Lib.hid hl
  clear hl
  go_wp2_with fail
  go_loopw [5] (fun i wr => ∃ k : Nat, i = .int .i64 k ∧ Hid (Below w.heap.size w wr) ∧ Hid (∀ j, j < k → La[j]? = Lb[j]?)) (fun i _ => La.length + 1 - (intOf i).toNat)
  case atStart => exact ⟨0, rfl, Below.refl _ _, fun j hj => by omega⟩
  case round =>
    obtain ⟨k, rfl, HW, HE⟩ := hrel
    have HA4 : Hid (RwsOk wr A ca La) := HA.out.below HW.out (Nat.le_refl _)
    have HB4 : Hid (RwsOk wr B cb Lb) := HB.out.below HW.out (Nat.le_refl _)
    by_cases hlt : k < La.length
    · obtain ⟨x, hx⟩ : ∃ x, La[k]? = some x := ⟨La[k], List.getElem?_eq_getElem hlt⟩
      obtain ⟨y, hy⟩ : ∃ y, Lb[k]? = some y := ⟨Lb[k]'(by have := HL.out; omega), List.getElem?_eq_getElem (by have := HL.out; omega)⟩
      obtain ⟨b1, o1, rfl, hb1, p0, p1, p2⟩ := rw_at HA4.out.rd hx
      obtain ⟨b2, o2, rfl, hb2, q0, q1, q2⟩ := rw_at HB4.out.rd hy
      have HX := Lib.hid hx
      have HY := Lib.hid hy
      have hkb : k < Lb.length := by have := HL.out; omega
      clear hx hy
      by_cases hxy : x = y
      · subst hxy
        have he0 : ((x.f.toNat : Int) == (x.f.toNat : Int)) = true := by simp
        have he1 : ((x.t.toNat : Int) == (x.t.toNat : Int)) = true := by simp
        have he2 : (x.v.toList == x.v.toList) = true := bytes_eq.2 rfl
        go_wp2_with fail
        go_quiet (fail)
        go_wp2_with fail
        exact ⟨⟨k + 1, by go_num, below_drewN HW.out _, fun j hj => by
          by_cases e : j = k
          · subst e; exact HX.out.trans HY.out.symm
          · exact HE.out j (by omega)⟩, by simp [intOf]; omega⟩
      · have HF : Hid (r = false) := by show _ = _; rw [← HR.out]; exact decide_eq_false (fun e => list_unlike HX.out HY.out hxy e)
        have HD : Hid (¬ (x.f = y.f ∧ x.t = y.t ∧ x.v = y.v)) := fun e => hxy (Rw.eq_iff.1 e)
        clear hxy
        by_cases d0 : x.f = y.f
        · have he0 : ((x.f.toNat : Int) == (y.f.toNat : Int)) = true := by simp [d0]
          by_cases d1 : x.t = y.t
          · have he1 : ((x.t.toNat : Int) == (y.t.toNat : Int)) = true := by simp [d1]
            have d2 : ¬ x.v = y.v := fun e => HD.out ⟨d0, d1, e⟩
            have he2 : (x.v.toList == y.v.toList) = false := Bool.eq_false_iff.2 (fun e => d2 (bytes_eq.1 e))
            clear d0 d1 d2
            go_wp2_with fail
            go_quiet (fail)
            go_wp2_with fail
            go_ret
            exact ⟨by rw [HF.out]; rfl, below_drewN HW.out _⟩
          · have he1 : ((x.t.toNat : Int) == (y.t.toNat : Int)) = false := beq_eq_false_iff_ne.2 (fun e => d1 (UInt8.toNat_inj.1 (by omega)))
            clear d0 d1
            go_wp2_with fail
            go_quiet (fail)
            go_wp2_with fail
            go_ret
            exact ⟨by rw [HF.out]; rfl, below_drewN HW.out _⟩
        · have he0 : ((x.f.toNat : Int) == (y.f.toNat : Int)) = false := beq_eq_false_iff_ne.2 (fun e => d0 (UInt8.toNat_inj.1 (by omega)))
          clear d0
          go_wp2_with fail
          go_quiet (fail)
          go_wp2_with fail
          go_ret
          exact ⟨by rw [HF.out]; rfl, below_drewN HW.out _⟩
    · have EX : Hid (La = Lb) := list_alike HL.out (fun j hj => HE.out j (by omega))
      have HT : Hid (r = true) := by show _ = _; rw [← HR.out]; exact decide_eq_true EX.out
      go_wp2_with fail
      go_ret
      exact ⟨by rw [HT.out]; rfl, HW.out⟩
end Go.Proofs.YtkcojblflebomaaGreat
