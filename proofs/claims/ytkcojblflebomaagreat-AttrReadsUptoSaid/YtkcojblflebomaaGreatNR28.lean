/-
  Several texts in one.
-/
import Derived.Test.YtkcojblflebomaaGreatNR27
import Derived.Test.YtkcojblflebomaaGreatNR12
import Derived.Test.YtkcojblflebomaaGreatNR9
import Derived.Test.YtkcojblflebomaaGreatNR4
import Derived.Test.YtkcojblflebomaaGreatNR19
import Derived.Test.YtkcojblflebomaaGreatNR5
import Derived.OrdersHeld
import Derived.Deep.MidRow
import Derived.Test.YtkcojblflebomaaGreatNR6
import Derived.Test.YtkcojblflebomaaGreatNR26
import Derived.StillTailTactics
import Derived.BigQuiet
import Derived.Deep.QuietTactic
import Derived.Test.YtkcojblflebomaaGreatNR15
import Derived.Test.YtkcojblflebomaaGreatNR16
import Derived.Test.YtkcojblflebomaaGreatNR14
import Derived.Test.YtkcojblflebomaaGreatNR7
set_option linter.unusedVariables false
set_option linter.unusedSimpArgs false
namespace Go.Proofs.YtkcojblflebomaaGreat
open Go.RowKit Go.MapKept Go.Shelf
open Go.Lib hiding intOf

theorem AtC.eq_iff {a b : AtC} : (a.origin = b.origin ∧ a.next = b.next ∧ a.hasMed = b.hasMed ∧ a.med = b.med ∧ a.hasPref = b.hasPref ∧ a.pref = b.pref ∧ a.atomic = b.atomic ∧ a.aggAs = b.aggAs ∧ a.aggId = b.aggId ∧ a.hasOrig = b.hasOrig ∧ a.orig = b.orig ∧ a.path = b.path ∧ a.comms = b.comms ∧ a.exts = b.exts ∧ a.larges = b.larges ∧ a.clus = b.clus) ↔ a = b := by
  constructor
  · rintro ⟨h0, h1, h2, h3, h4, h5, h6, h7, h8, h9, h10, h11, h12, h13, h14, h15⟩
    cases a
    cases b
    simp only at h0 h1 h2 h3 h4 h5 h6 h7 h8 h9 h10 h11 h12 h13 h14 h15
    subst h0 h1 h2 h3 h4 h5 h6 h7 h8 h9 h10 h11 h12 h13 h14 h15
    rfl
  · rintro rfl
    exact ⟨rfl, rfl, rfl, rfl, rfl, rfl, rfl, rfl, rfl, rfl, rfl, rfl, rfl, rfl, rfl, rfl⟩
instance : DecidableEq AtC := fun a b => decidable_of_iff _ (AtC.eq_iff (a := a) (b := b))
/-- what is left of a region where nothing is left to be done but to hand on and to pass over -/
def pureAll (ops : Array Oper) : List Oper → Act → Option Act
  | [], a => some a
  | o :: r, a => if Region.wanted o (yielded ops a.tmps) = true then
      match o.op with
      | .move x => pureAll ops r (a.put o.dst (a.eval x))
      | .assign x => pureAll ops r (a.put o.dst (a.eval x))
      | .pick c x y => match a.eval c with
        | .bool b => pureAll ops r (a.put o.dst (if b then a.eval x else a.eval y))
        | _ => none
      | _ => none
    else pureAll ops r (a.put o.dst undef)
theorem wpList_pure {P : Program} {ops : Array Oper} {Q : Exit → Act → World → Prop} {w : World} : ∀ {rest : List Oper} {a a' : Act}, pureAll ops rest a = some a' → Q .normal a' w → wpList P ops Q rest a w
  | [], a, a', h, hQ => by
    cases h
    exact hQ
  | o :: r, a, a', h, hQ => by
    unfold pureAll at h
    by_cases hw : Region.wanted o (yielded ops a.tmps) = true
    · rw [if_pos hw] at h
      refine Go.BigFrame.wpList_want hw fun K hK => ?_
      obtain ⟨dst, op, type, pos, after, guard⟩ := o
      cases op <;> try (cases h; done)
      case move x =>
        unfold Oper.wp execOp
        exact hK _ _ (wpList_pure h hQ)
      case assign x =>
        unfold Oper.wp execOp
        exact hK _ _ (wpList_pure h hQ)
      case pick c x y =>
        simp only at h
        split at h
        · next b hb =>
          unfold Oper.wp execOp
          simp only [hb]
          cases b <;> exact hK _ _ (wpList_pure h hQ)
        · cases h
    · rw [if_neg hw] at h
      exact wpList_skip (by simpa using hw) (wpList_pure h hQ)
def StopP (p : Prop) : Prop := p
theorem StopB {p : Prop} (h : StopP p) : p := h
theorem StopA {p : Prop} (h : p) : StopP p := h
theorem wp_region_eq {P : Program} {id : Nat} {ops : Array Oper} {Q : Exit → Act → World → Prop} {a : Act} {w : World} (l : List Oper) (h : ops = l.toArray) (H : wpList P l.toArray Q l a w) : (Code.region id ops false).wp P Q a w := by
  subst h
  exact wp_region_lit H
theorem bytes_eq {s t : ByteArray} : (s.toList == t.toList) = true ↔ s = t := by
  rw [beq_iff_eq]
  constructor
  · intro h
    rw [ByteArray.toList_eq, ByteArray.toList_eq] at h
    apply ByteArray.ext
    exact Array.ext' h
  · rintro rfl
    rfl
end Go.Proofs.YtkcojblflebomaaGreat
set_option linter.unusedVariables false
set_option linter.unusedSimpArgs false
namespace Go.Proofs.YtkcojblflebomaaGreat
open Go.RowKit Go.MapKept Go.Shelf
open Go.Lib hiding intOf

theorem Rw.eq_iff {x y : Rw} : (x.f = y.f ∧ x.t = y.t ∧ x.v = y.v) ↔ x = y := by
  cases x
  cases y
  simp
instance : DecidableEq Rw := fun a b => decidable_of_iff _ (Rw.eq_iff (x := a) (y := b))
set_option maxRecDepth 100000 in
set_option maxHeartbeats 4000000 in
theorem rsraws_any (A B : Option Addr) (ca cb : Nat) (La Lb : List Rw) (w : World) (h1 : RwsOk w A ca La) (h2 : RwsOk w B cb Lb) :
    Calls Tryz.prog 15 #[.slice A La.length ca, .slice B Lb.length cb] w fun e w' => e = .returned (.bool (decide (La = Lb))) ∧ Below w.heap.size w w' := by
  have HA := Lib.hid h1
  have HB := Lib.hid h2
  have g1 := h1.len
  have g2 := h1.cap
  have g3 := h2.len
  have g4 := h2.cap
  clear h1 h2
  generalize hr : decide (La = Lb) = r
  have HR := Lib.hid hr
  clear hr
  go_enter Tryz.func15, Tryz.ntmps15
  by_cases hl : La.length = Lb.length
  case neg =>
    have HF : Hid (r = false) := by show _ = _; rw [← HR.out]; exact decide_eq_false (fun e => hl (by rw [e]))
    have z1 : ((La.length : Int) != (Lb.length : Int)) = true := bne_iff_ne.2 (by omega)
    have z2 : ((La.length : Int) == (Lb.length : Int)) = false := beq_eq_false_iff_ne.2 (by omega)
    clear hl
    go_wp2_with fail
    go_ret
    exact ⟨by rw [HF.out]; rfl, Below.refl _ _⟩
  have z1 : ((La.length : Int) != (Lb.length : Int)) = false := by rw [hl]; simp
  have z2 : ((La.length : Int) == (Lb.length : Int)) = true := by rw [hl]; simp
  have HL := Lib.hid hl
  clear hl
  go_wp2_with fail
  go_loopw [5] (fun i wr => ∃ k : Nat, i = .int .i64 k ∧ Hid (Below w.heap.size w wr) ∧ Hid (∀ j, j < k → La[j]? = Lb[j]?)) (fun i _ => La.length + 1 - (intOf i).toNat)
  case atStart => exact ⟨0, rfl, Below.refl _ _, fun j hj => by omega⟩
  case round =>
    obtain ⟨k, rfl, HW, HE⟩ := hrel
    have HA4 : Hid (RwsOk wr A ca La) := HA.out.below HW.out (Nat.le_refl _)
    have HB4 : Hid (RwsOk wr B cb Lb) := HB.out.below HW.out (Nat.le_refl _)
    by_cases hlt : k < La.length
    · obtain ⟨x, hx⟩ : ∃ x, La[k]? = some x := ⟨La[k], List.getElem?_eq_getElem hlt⟩
      obtain ⟨y, hy⟩ : ∃ y, Lb[k]? = some y := ⟨Lb[k]'(by have := HL.out; omega), List.getElem?_eq_getElem (by have := HL.out; omega)⟩
      obtain ⟨b1, o1, rfl, hb1, p0, p1, p2⟩ := rw_at HA4.out.rd hx
      obtain ⟨b2, o2, rfl, hb2, q0, q1, q2⟩ := rw_at HB4.out.rd hy
      have HX := Lib.hid hx
      have HY := Lib.hid hy
      have hkb : k < Lb.length := by have := HL.out; omega
      clear hx hy
      by_cases hxy : x = y
      · subst hxy
        have he0 : ((x.f.toNat : Int) == (x.f.toNat : Int)) = true := by simp
        have he1 : ((x.t.toNat : Int) == (x.t.toNat : Int)) = true := by simp
        have he2 : (x.v.toList == x.v.toList) = true := bytes_eq.2 rfl
        go_wp2_with fail
        go_quiet (fail)
        go_wp2_with fail
        exact ⟨⟨k + 1, by go_num, below_drewN HW.out _, fun j hj => by
          by_cases e : j = k
          · subst e; exact HX.out.trans HY.out.symm
          · exact HE.out j (by omega)⟩, by simp [intOf]; omega⟩
      · have HF : Hid (r = false) := by show _ = _; rw [← HR.out]; exact decide_eq_false (fun e => list_unlike HX.out HY.out hxy e)
        have HD : Hid (¬ (x.f = y.f ∧ x.t = y.t ∧ x.v = y.v)) := fun e => hxy (Rw.eq_iff.1 e)
        clear hxy
        by_cases d0 : x.f = y.f
        · have he0 : ((x.f.toNat : Int) == (y.f.toNat : Int)) = true := by simp [d0]
          by_cases d1 : x.t = y.t
          · have he1 : ((x.t.toNat : Int) == (y.t.toNat : Int)) = true := by simp [d1]
            have d2 : ¬ x.v = y.v := fun e => HD.out ⟨d0, d1, e⟩
            have he2 : (x.v.toList == y.v.toList) = false := Bool.eq_false_iff.2 (fun e => d2 (bytes_eq.1 e))
            clear d0 d1 d2
            go_wp2_with fail
            go_quiet (fail)
            go_wp2_with fail
            go_ret
            exact ⟨by rw [HF.out]; rfl, below_drewN HW.out _⟩
          · have he1 : ((x.t.toNat : Int) == (y.t.toNat : Int)) = false := beq_eq_false_iff_ne.2 (fun e => d1 (UInt8.toNat_inj.1 (by omega)))
            clear d0 d1
            go_wp2_with fail
            go_quiet (fail)
            go_wp2_with fail
            go_ret
            exact ⟨by rw [HF.out]; rfl, below_drewN HW.out _⟩
        · have he0 : ((x.f.toNat : Int) == (y.f.toNat : Int)) = false := beq_eq_false_iff_ne.2 (fun e => d0 (UInt8.toNat_inj.1 (by omega)))
          clear d0
          go_wp2_with fail
          go_quiet (fail)
          go_wp2_with fail
          go_ret
          exact ⟨by rw [HF.out]; rfl, below_drewN HW.out _⟩
    · have EX : Hid (La = Lb) := list_alike HL.out (fun j hj => HE.out j (by omega))
      have HT : Hid (r = true) := by show _ = _; rw [← HR.out]; exact decide_eq_true EX.out
      go_wp2_with fail
      go_ret
      exact ⟨by rw [HT.out]; rfl, HW.out⟩
end Go.Proofs.YtkcojblflebomaaGreat
set_option linter.unusedVariables false
set_option linter.unusedSimpArgs false
namespace Go.Proofs.YtkcojblflebomaaGreat
open Go.RowKit Go.MapKept Go.Shelf
open Go.Lib hiding intOf

/-- a raw attribute's cells, where a world has them -/
structure RwS (w0 : World) (b o : Nat) (x : Rw) (w : World) : Prop where
  lt : b < w.heap.size
  t : w.cell? ⟨b, o + 1, none⟩ = some (.int .u8 x.t.toNat)
  v : w.cell? ⟨b, o + 2, none⟩ = some (.string x.v)
  b : Below w0.heap.size w0 w
theorem RwS.below {w0 w w' : World} {b o : Nat} {x : Rw} (h : RwS w0 b o x w) (hb : Below w.heap.size w w') : RwS w0 b o x w' :=
  ⟨Nat.lt_of_lt_of_le h.lt hb.size, (hb.cell (p := ⟨b, _, none⟩) h.lt).trans h.t, (hb.cell (p := ⟨b, _, none⟩) h.lt).trans h.v, h.b.trans (hb.mono h.b.size)⟩
theorem RwS.drew {w0 w : World} {b o : Nat} {x : Rw} (h : RwS w0 b o x w) (n : Nat) : RwS w0 b o x (w.drewN n) := h.below (below_drewN (Below.refl _ _) n)
end Go.Proofs.YtkcojblflebomaaGreat
set_option linter.unusedVariables false
set_option linter.unusedSimpArgs false
namespace Go.Proofs.YtkcojblflebomaaGreat
open Go.RowKit Go.MapKept Go.Shelf
open Go.Lib hiding intOf

theorem nx_list (t : ByteArray) (n : Nat) : (nx t n).data.toList = t.data.toList.drop n := by
  unfold nx
  rw [ByteArray.data_extract, Array.toList_extract]
  simp [List.extract]
  rw [List.take_of_length_le (by simp)]
theorem ext_list (t : ByteArray) (a b : Nat) : (t.extract a b).data.toList = (t.data.toList.drop a).take (b - a) := by
  rw [ByteArray.data_extract, Array.toList_extract]
theorem bytes_ext {a b : ByteArray} (h : a.data.toList = b.data.toList) : a = b := ByteArray.ext (Array.ext' h)
theorem nx_nx (t : ByteArray) (a b : Nat) : nx (nx t a) b = nx t (a + b) := bytes_ext (by rw [nx_list, nx_list, nx_list, List.drop_drop])
end Go.Proofs.YtkcojblflebomaaGreat
set_option linter.unusedVariables false
set_option linter.unusedSimpArgs false
namespace Go.Proofs.YtkcojblflebomaaGreat
open Go.RowKit Go.MapKept Go.Shelf
open Go.Lib hiding intOf

theorem u64_some (x : Int) (h : 0 ≤ x) : ∃ p : Nat, IntKind.u64.wrap x = (p : Int) ∧ p < 18446744073709551616 := by
  refine ⟨(x % 18446744073709551616).toNat, ?_, by omega⟩
  rw [IntKind.wrap_u64]
  omega
set_option maxHeartbeats 1000000 in
theorem rvalue_some (t : ByteArray) (w : World) (ht : t.size ≤ 140737488351232) :
    Calls Tryz.prog 37 #[.string t] w fun e w' => (∃ n : Nat, n < 18446744073709551616 ∧ e = .returned (.int .u64 (n : Nat)) ∧ (t.size ≤ 8 → n = beVal t.data.toList)) ∧ w' = w := by
  by_cases h8 : t.size ≤ 8
  · refine (rvalue_any t w h8).mono ?_
    rintro e w' ⟨rfl, rfl⟩
    refine ⟨⟨_, ?_, rfl, fun _ => rfl⟩, rfl⟩
    have h1 := beVal_lt t.data.toList _ rfl
    have h2 : t.data.toList.length = t.size := rfl
    refine Nat.lt_of_lt_of_le h1 ?_
    rw [h2]
    exact Nat.le_trans (Nat.pow_le_pow_right (by decide) h8) (by decide)
  have H8 := Lib.hid h8
  clear h8
  go_enter Tryz.func37, Tryz.ntmps37
  go_wp2
  go_loop [3, 4] (fun v i => ∃ k n : Nat, k ≤ t.size ∧ i = .int .i64 k ∧ v = .int .u64 (n : Nat) ∧ n < 18446744073709551616) (fun _ i => t.size - (intOf i).toNat)
  case atStart => exact ⟨0, 0, Nat.zero_le _, rfl, rfl, by omega⟩
  case round =>
    obtain ⟨k, n, hk, rfl, rfl, hn⟩ := hrel
    by_cases hlt : k < t.size
    · have hc := t[k].toNat_lt
      obtain ⟨p, hp, hp2⟩ := u64_some ((n : Int) * 256) (by omega)
      obtain ⟨q, hq, hq2⟩ := u64_some ((p : Int) + (t[k].toNat : Int)) (by omega)
      go_wp2
      go_round
      case rel => exact ⟨k + 1, q, by omega, by go_num, rfl, hq2⟩
      case measure => simp [intOf]; omega
    · go_wp2
      go_ret
      exact ⟨⟨n, hn, rfl, fun h => absurd h H8.out⟩, rfl⟩
def NumPost (base S : Nat) (s : ByteArray) (e : Ending) (w' : World) : Prop := if s.size = 0 ∨ s.size % S ≠ 0 then e = .returned (.tuple #[.slice none 0 0, .bool false]) else ∃ v, e = .returned (.tuple #[v, .bool true]) ∧ OwnL w' base 57 1 x1 v (asN S (s.size / S) s)
theorem nxN_list (S : Nat) : ∀ (k : Nat) (s : ByteArray), (nxN S k s).data.toList = s.data.toList.drop (k * S)
  | 0, s => by simp [nxN]
  | k + 1, s => by
    show (nxN S k (nx s S)).data.toList = _
    rw [nxN_list S k, nx_list, List.drop_drop, Nat.succ_mul]
    congr 1
    omega
theorem hd_piece (S k : Nat) (s : ByteArray) : beVal (s.extract (k * S) (k * S + S)).data.toList = hd (nxN S k s) S := by
  unfold hd
  rw [nxN_list, ext_list]
  congr 2
  omega
set_option maxRecDepth 100000 in
set_option maxHeartbeats 8000000 in
theorem numbers_4 (s : ByteArray) (w : World) (hm : s.size ≤ 1048576) :
    Calls Tryz.prog 119 #[.string s, .int .i64 4] w fun e w' => NumPost w.heap.size 4 s e w' ∧ Below w.heap.size w w' := by
  by_cases hb : s.size = 0 ∨ s.size % 4 ≠ 0
  · have HT : Hid (∀ e w', e = Ending.returned (.tuple #[.slice none 0 0, .bool false]) → NumPost w.heap.size 4 s e w') := fun e w' h => by unfold NumPost; rw [if_pos hb]; exact h
    by_cases hb0 : s.size = 0
    · have z0 : ((s.size : Int) == 0) = true := beq_iff_eq.2 (by omega)
      clear hb hb0
      go_enter Tryz.func119, Tryz.ntmps119
      go_wp2_with fail
      go_ret2
      exact ⟨HT.out _ _ rfl, Below.refl _ _⟩
    · have z0 : ((s.size : Int) == 0) = false := beq_eq_false_iff_ne.2 (by omega)
      have hb1 : s.size % 4 ≠ 0 := hb.elim (fun h => absurd h hb0) id
      have z1 : ((s.size : Int) % 4 != 0) = true := bne_iff_ne.2 (by omega)
      have z1' : ((s.size : Int) % 4 == 0) = false := beq_eq_false_iff_ne.2 (by omega)
      have z2 : ((s.size : Int).tmod 4 != 0) = true := by rw [Int.tmod_eq_emod_of_nonneg (by omega)]; exact z1
      have z2' : ((s.size : Int).tmod 4 == 0) = false := by rw [Int.tmod_eq_emod_of_nonneg (by omega)]; exact z1'
      clear hb hb0 hb1
      go_enter Tryz.func119, Tryz.ntmps119
      go_wp2_with fail
      go_ret2
      exact ⟨HT.out _ _ rfl, Below.refl _ _⟩
  · have hb0 : s.size ≠ 0 := fun h => hb (.inl h)
    have hb1 : s.size % 4 = 0 := by omega
    have HT : Hid (∀ e w', (∃ v, e = Ending.returned (.tuple #[v, .bool true]) ∧ OwnL w' w.heap.size 57 1 x1 v (asN 4 (s.size / 4) s)) → NumPost w.heap.size 4 s e w') := fun e w' h => by unfold NumPost; rw [if_neg hb]; exact h
    have z0 : ((s.size : Int) == 0) = false := beq_eq_false_iff_ne.2 (by omega)
    have z1 : ((s.size : Int) % 4 != 0) = false := by
      have : (s.size : Int) % 4 = 0 := by omega
      rw [this]
      rfl
    have z1' : ((s.size : Int) % 4 == 0) = true := beq_iff_eq.2 (by omega)
    have z2 : ((s.size : Int).tmod 4 != 0) = false := by rw [Int.tmod_eq_emod_of_nonneg (by omega)]; exact z1
    have z2' : ((s.size : Int).tmod 4 == 0) = true := by rw [Int.tmod_eq_emod_of_nonneg (by omega)]; exact z1'
    have HB1 := Lib.hid hb1
    have HVA : Hid (∀ (k : Nat) (W : World), Calls Tryz.prog 37 #[.string (s.extract (k * 4) (k * 4 + 4))] W fun e w' => e = .returned (.int .u64 (hd (nxN 4 k s) 4 : Nat)) ∧ w' = W) := fun k W => by
      have h := rvalue_any (s.extract (k * 4) (k * 4 + 4)) W (by rw [ByteArray.size_extract]; omega)
      rwa [hd_piece] at h
    obtain ⟨i0, hi, hz0, hz1, hz2⟩ := info_parts infoU64
    have HI := Lib.hid hi
    have HZ0 := Lib.hid hz0
    have HZ1 := Lib.hid hz1
    have HZ2 := Lib.hid hz2
    clear hb hb0 hb1 hi hz0 hz1 hz2
    go_enter Tryz.func119, Tryz.ntmps119
    go_wp2_with fail
    go_loopw [7, 6] (fun i ov wr => ∃ (k : Nat) (A : Option Addr) (c : Nat), i = .int .i64 (k * 4 : Nat) ∧ ov = .slice A k c ∧ k * 4 ≤ s.size ∧ Hid (OwnL wr w.heap.size 57 1 x1 (.slice A k c) (asN 4 k s)) ∧ Hid (Below w.heap.size w wr)) (fun i _ _ => s.size + 1 - (intOf i).toNat)
    case atStart => exact ⟨0, none, 0, by simp, rfl, by omega, OwnL.nil _ _ _ _ _, Below.refl _ _⟩
    case round =>
      obtain ⟨k, A, c, rfl, rfl, hk, HO, HB⟩ := hrel
      by_cases hlt : k * 4 < s.size
      · have hk2 : k * 4 + 4 ≤ s.size := by have := HB1.out; omega
        have HAS := Lib.hid (asN_succ 4 k s)
        obtain ⟨x, hx⟩ : ∃ x, x = hd (nxN 4 k s) 4 := ⟨_, rfl⟩
        have HVK : Hid (∀ W : World, Calls Tryz.prog 37 #[.string (s.extract (k * 4) (k * 4 + 4))] W fun e w' => e = .returned (.int .u64 (x : Nat)) ∧ w' = W) := fun W => by rw [hx]; exact HVA.out k W
        rw [← hx] at HAS
        have HCB : Hid (CellsAt (wr.alloc (.cells #[.int .u64 (x : Nat)] 57)) wr.heap.size #[.int .u64 (x : Nat)] 57) := CellsAt.new _ _ _
        have HS := Lib.hid (Src.block (P := Tryz.prog) (t2 := 37) (size := 1) (m := 1) (c := 1) Tryz.underlying37 HCB.out rfl (by simp [Value.oneCell']))
        have HOB : Hid (OwnM (wr.alloc (.cells #[.int .u64 (x : Nat)] 57)) w.heap.size 57 1 (.slice A k c) k ((asN 4 k s).flatMap x1)) := by
          have h := HO.out.alloc (.cells #[.int .u64 (x : Nat)] 57)
          unfold OwnL at h
          rwa [asN_len] at h
        have HM : Hid (k + 1 ≤ maxLen) := by show _ ≤ _; unfold maxLen; omega
        have HY : Hid ((k + 1) * 8 ≤ 140737488355328) := by show _ ≤ _; omega
        have HBa : Hid (Below w.heap.size w (wr.alloc (.cells #[.int .u64 (x : Nat)] 57))) := HB.out.alloc HB.out.size _
        have HBS : Hid (w.heap.size ≤ (wr.alloc (.cells #[.int .u64 (x : Nat)] 57)).heap.size) := HBa.out.size
        clear hx HO
        go_wp2_with fail
        refine (HVK.out _).mono ?_
        rintro e w2 ⟨rfl, rfl⟩
        go_wp2_with (at_builtin; refine wpList_append_m rfl (.tmp 25) (.tmp 33) 37 37 rfl w.heap.size 57 i0 _ 1 8 Tryz.underlying37 HI.out HZ0.out HZ1.out HZ2.out rfl (by decide) (.slice A k c) k ((asN 4 k s).flatMap x1) rfl HOB.out _ 1 _ rfl HS.out HM.out HY.out HBS.out ?_)
        intro v' w5 hown hgr hat
        obtain ⟨A6, c6, rfl⟩ := hown.form
        have HN5 : Hid (OwnL w5 w.heap.size 57 1 x1 (.slice A6 (k + 1) c6) (asN 4 (k + 1) s)) := by
          show OwnL _ _ _ _ _ _ _
          rw [HAS.out]
          refine OwnL.snoc ?_
          rw [asN_len]
          exact hown
        have HB5 : Hid (Below w.heap.size w w5) := OwnM.below_grown HOB.out hgr HBa.out HBS.out (Nat.le_refl _)
        clear hown hgr hat HOB HBa
        go_wp2_with fail
        exact ⟨⟨k + 1, A6, c6, by go_num, rfl, by omega, HN5.out, HB5.out⟩, by simp [intOf]; omega⟩
      · have hke : s.size / 4 = k := by have := HB1.out; omega
        have HF : Hid (OwnL wr w.heap.size 57 1 x1 (.slice A k c) (asN 4 (s.size / 4) s)) := by rw [hke]; exact HO.out
        clear hke HO
        go_wp2_with fail
        go_ret2
        exact ⟨HT.out _ _ ⟨_, rfl, HF.out⟩, HB.out⟩
set_option maxRecDepth 100000 in
set_option maxHeartbeats 8000000 in
theorem numbers_8 (s : ByteArray) (w : World) (hm : s.size ≤ 1048576) :
    Calls Tryz.prog 119 #[.string s, .int .i64 8] w fun e w' => NumPost w.heap.size 8 s e w' ∧ Below w.heap.size w w' := by
  by_cases hb : s.size = 0 ∨ s.size % 8 ≠ 0
  · have HT : Hid (∀ e w', e = Ending.returned (.tuple #[.slice none 0 0, .bool false]) → NumPost w.heap.size 8 s e w') := fun e w' h => by unfold NumPost; rw [if_pos hb]; exact h
    by_cases hb0 : s.size = 0
    · have z0 : ((s.size : Int) == 0) = true := beq_iff_eq.2 (by omega)
      clear hb hb0
      go_enter Tryz.func119, Tryz.ntmps119
      go_wp2_with fail
      go_ret2
      exact ⟨HT.out _ _ rfl, Below.refl _ _⟩
    · have z0 : ((s.size : Int) == 0) = false := beq_eq_false_iff_ne.2 (by omega)
      have hb1 : s.size % 8 ≠ 0 := hb.elim (fun h => absurd h hb0) id
      have z1 : ((s.size : Int) % 8 != 0) = true := bne_iff_ne.2 (by omega)
      have z1' : ((s.size : Int) % 8 == 0) = false := beq_eq_false_iff_ne.2 (by omega)
      have z2 : ((s.size : Int).tmod 8 != 0) = true := by rw [Int.tmod_eq_emod_of_nonneg (by omega)]; exact z1
      have z2' : ((s.size : Int).tmod 8 == 0) = false := by rw [Int.tmod_eq_emod_of_nonneg (by omega)]; exact z1'
      clear hb hb0 hb1
      go_enter Tryz.func119, Tryz.ntmps119
      go_wp2_with fail
      go_ret2
      exact ⟨HT.out _ _ rfl, Below.refl _ _⟩
  · have hb0 : s.size ≠ 0 := fun h => hb (.inl h)
    have hb1 : s.size % 8 = 0 := by omega
    have HT : Hid (∀ e w', (∃ v, e = Ending.returned (.tuple #[v, .bool true]) ∧ OwnL w' w.heap.size 57 1 x1 v (asN 8 (s.size / 8) s)) → NumPost w.heap.size 8 s e w') := fun e w' h => by unfold NumPost; rw [if_neg hb]; exact h
    have z0 : ((s.size : Int) == 0) = false := beq_eq_false_iff_ne.2 (by omega)
    have z1 : ((s.size : Int) % 8 != 0) = false := by
      have : (s.size : Int) % 8 = 0 := by omega
      rw [this]
      rfl
    have z1' : ((s.size : Int) % 8 == 0) = true := beq_iff_eq.2 (by omega)
    have z2 : ((s.size : Int).tmod 8 != 0) = false := by rw [Int.tmod_eq_emod_of_nonneg (by omega)]; exact z1
    have z2' : ((s.size : Int).tmod 8 == 0) = true := by rw [Int.tmod_eq_emod_of_nonneg (by omega)]; exact z1'
    have HB1 := Lib.hid hb1
    have HVA : Hid (∀ (k : Nat) (W : World), Calls Tryz.prog 37 #[.string (s.extract (k * 8) (k * 8 + 8))] W fun e w' => e = .returned (.int .u64 (hd (nxN 8 k s) 8 : Nat)) ∧ w' = W) := fun k W => by
      have h := rvalue_any (s.extract (k * 8) (k * 8 + 8)) W (by rw [ByteArray.size_extract]; omega)
      rwa [hd_piece] at h
    obtain ⟨i0, hi, hz0, hz1, hz2⟩ := info_parts infoU64
    have HI := Lib.hid hi
    have HZ0 := Lib.hid hz0
    have HZ1 := Lib.hid hz1
    have HZ2 := Lib.hid hz2
    clear hb hb0 hb1 hi hz0 hz1 hz2
    go_enter Tryz.func119, Tryz.ntmps119
    go_wp2_with fail
    go_loopw [7, 6] (fun i ov wr => ∃ (k : Nat) (A : Option Addr) (c : Nat), i = .int .i64 (k * 8 : Nat) ∧ ov = .slice A k c ∧ k * 8 ≤ s.size ∧ Hid (OwnL wr w.heap.size 57 1 x1 (.slice A k c) (asN 8 k s)) ∧ Hid (Below w.heap.size w wr)) (fun i _ _ => s.size + 1 - (intOf i).toNat)
    case atStart => exact ⟨0, none, 0, by simp, rfl, by omega, OwnL.nil _ _ _ _ _, Below.refl _ _⟩
    case round =>
      obtain ⟨k, A, c, rfl, rfl, hk, HO, HB⟩ := hrel
      by_cases hlt : k * 8 < s.size
      · have hk2 : k * 8 + 8 ≤ s.size := by have := HB1.out; omega
        have HAS := Lib.hid (asN_succ 8 k s)
        obtain ⟨x, hx⟩ : ∃ x, x = hd (nxN 8 k s) 8 := ⟨_, rfl⟩
        have HVK : Hid (∀ W : World, Calls Tryz.prog 37 #[.string (s.extract (k * 8) (k * 8 + 8))] W fun e w' => e = .returned (.int .u64 (x : Nat)) ∧ w' = W) := fun W => by rw [hx]; exact HVA.out k W
        rw [← hx] at HAS
        have HCB : Hid (CellsAt (wr.alloc (.cells #[.int .u64 (x : Nat)] 57)) wr.heap.size #[.int .u64 (x : Nat)] 57) := CellsAt.new _ _ _
        have HS := Lib.hid (Src.block (P := Tryz.prog) (t2 := 37) (size := 1) (m := 1) (c := 1) Tryz.underlying37 HCB.out rfl (by simp [Value.oneCell']))
        have HOB : Hid (OwnM (wr.alloc (.cells #[.int .u64 (x : Nat)] 57)) w.heap.size 57 1 (.slice A k c) k ((asN 8 k s).flatMap x1)) := by
          have h := HO.out.alloc (.cells #[.int .u64 (x : Nat)] 57)
          unfold OwnL at h
          rwa [asN_len] at h
        have HM : Hid (k + 1 ≤ maxLen) := by show _ ≤ _; unfold maxLen; omega
        have HY : Hid ((k + 1) * 8 ≤ 140737488355328) := by show _ ≤ _; omega
        have HBa : Hid (Below w.heap.size w (wr.alloc (.cells #[.int .u64 (x : Nat)] 57))) := HB.out.alloc HB.out.size _
        have HBS : Hid (w.heap.size ≤ (wr.alloc (.cells #[.int .u64 (x : Nat)] 57)).heap.size) := HBa.out.size
        clear hx HO
        go_wp2_with fail
        refine (HVK.out _).mono ?_
        rintro e w2 ⟨rfl, rfl⟩
        go_wp2_with (at_builtin; refine wpList_append_m rfl (.tmp 25) (.tmp 33) 37 37 rfl w.heap.size 57 i0 _ 1 8 Tryz.underlying37 HI.out HZ0.out HZ1.out HZ2.out rfl (by decide) (.slice A k c) k ((asN 8 k s).flatMap x1) rfl HOB.out _ 1 _ rfl HS.out HM.out HY.out HBS.out ?_)
        intro v' w5 hown hgr hat
        obtain ⟨A6, c6, rfl⟩ := hown.form
        have HN5 : Hid (OwnL w5 w.heap.size 57 1 x1 (.slice A6 (k + 1) c6) (asN 8 (k + 1) s)) := by
          show OwnL _ _ _ _ _ _ _
          rw [HAS.out]
          refine OwnL.snoc ?_
          rw [asN_len]
          exact hown
        have HB5 : Hid (Below w.heap.size w w5) := OwnM.below_grown HOB.out hgr HBa.out HBS.out (Nat.le_refl _)
        clear hown hgr hat HOB HBa
        go_wp2_with fail
        exact ⟨⟨k + 1, A6, c6, by go_num, rfl, by omega, HN5.out, HB5.out⟩, by simp [intOf]; omega⟩
      · have hke : s.size / 8 = k := by have := HB1.out; omega
        have HF : Hid (OwnL wr w.heap.size 57 1 x1 (.slice A k c) (asN 8 (s.size / 8) s)) := by rw [hke]; exact HO.out
        clear hke HO
        go_wp2_with fail
        go_ret2
        exact ⟨HT.out _ _ ⟨_, rfl, HF.out⟩, HB.out⟩
end Go.Proofs.YtkcojblflebomaaGreat
