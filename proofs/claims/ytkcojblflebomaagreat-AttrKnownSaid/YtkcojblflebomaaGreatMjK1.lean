/-
  AttrKnown: the closed law answers true. Conditions: none of its own.
-/
import Derived.Test.YtkcojblflebomaaGreatAdA
import Derived.OrdersHeld
import Derived.Test.YtkcojblflebomaaGreatAcV
import Derived.Test.YtkcojblflebomaaGreatAbL
import Derived.Test.YtkcojblflebomaaGreatAcD
import Derived.Test.YtkcojblflebomaaGreatAbM
import Derived.Test.YtkcojblflebomaaGreatAbN
import Derived.Test.YtkcojblflebomaaGreatAaO
import Derived.Test.YtkcojblflebomaaGreatAcC
import Derived.Test.YtkcojblflebomaaGreatAbH
import Derived.Test.YtkcojblflebomaaGreatAcJ
import Derived.Test.YtkcojblflebomaaGreatAcK
import Derived.Test.YtkcojblflebomaaGreatAcN
import Derived.Deep.MidRow
import Derived.Great.BuildSlice
import Derived.Deep.DeepCutAuto
set_option linter.unusedVariables false
set_option linter.unusedSimpArgs false
namespace Go.Proofs.YtkcojblflebomaaGreat
open Go.RowKit Go.MapKept Go.Shelf
open Go.Lib hiding intOf

def LgC (w : World) (g o : Nat) (x : Lg) : Prop := w.cell? ⟨g, o, none⟩ = some (.int .u32 (x.g : Nat)) ∧ w.cell? ⟨g, o + 1, none⟩ = some (.int .u32 (x.a : Nat)) ∧ w.cell? ⟨g, o + 2, none⟩ = some (.int .u32 (x.b : Nat))
theorem own_lg {w : World} {base g n cap i : Nat} {cur : List Lg} {x : Lg} (h : OwnM w base 59 3 (.slice (some ⟨g, 0, none⟩) n cap) n (cur.flatMap Lg.cs)) (hn : 0 < n) (hx : cur[i]? = some x) : LgC w g (i * 3) x := by
  obtain ⟨g2, cap2, hv, _, _, _, _, hc, _⟩ := OwnM.cells h hn
  simp only [Value.slice.injEq, Option.some.injEq, Addr.mk.injEq] at hv
  obtain ⟨⟨rfl, _⟩, _, rfl⟩ := hv
  exact ⟨hc _ _ (flat_at Lg.cs_len cur i x 0 _ hx rfl), hc _ _ (flat_at Lg.cs_len cur i x 1 _ hx rfl), hc _ _ (flat_at Lg.cs_len cur i x 2 _ hx rfl)⟩
theorem own_there {w : World} {base g n cap : Nat} {xs : List Value} (h : OwnM w base 59 3 (.slice (some ⟨g, 0, none⟩) n cap) n xs) (hn : 0 < n) : w.there g 0 (n * 3) := by
  obtain ⟨g2, cap2, hv, _, _, _, _, ht⟩ := OwnM.there h hn
  simp only [Value.slice.injEq, Option.some.injEq, Addr.mk.injEq] at hv
  obtain ⟨⟨rfl, _⟩, _, rfl⟩ := hv
  exact ht
theorem zero_large : ∀ w, (zeroValue 59).run Tryz.prog w = .ok (.agg #[.int .u32 0, .int .u32 0, .int .u32 0]) w := Tryz.zeroValue59
theorem clear_L {w : World} {base g n cap k : Nat} {xs : List Value} (h : OwnM w base 59 3 (.slice (some ⟨g, 0, none⟩) n cap) n xs) (hk : k < n) (c : Nat) (ty : TypeId) :
    ∃ w', (Builtin.clear_ #[38] ty #[.slice (some ⟨g, k * 3, none⟩) (n - k) c]).run Tryz.prog w = .ok (.tuple #[]) w' ∧ OwnM w' base 59 3 (.slice (some ⟨g, 0, none⟩) k cap) k (xs.take (k * 3)) ∧ w.grownBy w' (some g) := by
  have ht := own_there h (by omega)
  refine ⟨_, run_clear_k (P := Tryz.prog) w 38 59 ty (.agg #[.int .u32 0, .int .u32 0, .int .u32 0]) Tryz.underlying38 zero_large (by simp [Value.cells, Value.oneCell']) (by decide) g (k * 3) (n - k) c (by omega) (fun j hj => ?_) (fun j hj => ?_), ?_, grown_setCells g _ _ w⟩
  · have := (ht (k * 3 + j) (by simp [Value.cells] at hj; omega)).1
    rwa [Nat.zero_add] at this
  · have := (ht (k * 3 + j) (by simp [Value.cells] at hj; omega)).2
    rwa [Nat.zero_add] at this
  · have h1 := OwnM.setMany (Builtin.zeroCells (Value.agg #[.int .u32 0, .int .u32 0, .int .u32 0]).cells (n - k)).toList (k * 3) w xs h (by simp [Builtin.zeroCells, Value.cells]; omega)
    have h2 := h1.cut (m := k) (by omega)
    rwa [setL_take _ _ _ _ (Nat.le_refl _)] at h2
/-- large ones compared: the fields -/
theorem lg_unlike {x y : Lg} (h : ¬ y = x) : ¬ (y.g = x.g ∧ y.a = x.a ∧ y.b = x.b) := fun e => h (Lg.eq_iff.1 e)
theorem grown_drewN {w w' : World} {row : Option Nat} (h : w.grownBy w' row) (n : Nat) : w.grownBy (w'.drewN n) row := ⟨h.os, h.tape, h.output, h.size, h.block⟩
set_option maxRecDepth 100000 in
set_option maxHeartbeats 16000000 in
theorem cut_L (w : World) (base : Nat) (v : Value) (l : List Lg) (h : OwnL w base 59 3 Lg.cs v l) (hl : l.length ≤ 4611686018427387904) :
    Calls Tryz.prog 130 #[v] w (CmpPost w base 59 3 Lg.cs v (dd l)) := by
  by_cases h1 : l.length < 2
  · have hdd : dd l = l := by
      match l, h1 with
      | [], _ => rfl
      | [a], _ => rfl
    rw [hdd]
    obtain ⟨A, c, rfl⟩ := h.form
    have HH := Lib.hid h
    have h1' : (l.length : Int) < 2 := by omega
    clear h hdd
    go_enter Tryz.func130, Tryz.ntmps130
    go_wp2_with fail
    go_ret
    exact ⟨_, rfl, HH.out, grown_refl _ _, rfl⟩
  obtain ⟨g, cap, rfl, hb, hg, hn, hc, _⟩ := OwnM.cells h (show 0 < l.length by omega)
  have HH : Hid (OwnM w base 59 3 (.slice (some ⟨g, 0, none⟩) l.length cap) l.length (l.flatMap Lg.cs)) := h
  have HRET : Hid (∀ (k : Nat) (W : World), Hid (∃ cur : List Lg, Cmp l cur l.length k ∧ OwnM W base 59 3 (.slice (some ⟨g, 0, none⟩) k cap) k ((cur.flatMap Lg.cs).take (k * 3)) ∧ w.grownBy W (some g)) → CmpPost w base 59 3 Lg.cs (.slice (some ⟨g, 0, none⟩) l.length cap) (dd l) (.returned (.slice (some ⟨g, 0, none⟩) k cap)) W) := fun k W hx => by
    obtain ⟨cur, h1, h2, h3⟩ := hx.out
    obtain ⟨f1, f2⟩ := h1.fin
    refine ⟨_, rfl, ?_, h3, rfl⟩
    unfold OwnL
    rw [f2, ← f1, ← flat_take Lg.cs_len]
    exact h2
  have HALL : Hid (∀ (W : World), dd l = l → OwnL W base 59 3 Lg.cs (.slice (some ⟨g, 0, none⟩) l.length cap) l → w.grownBy W (some g) → CmpPost w base 59 3 Lg.cs (.slice (some ⟨g, 0, none⟩) l.length cap) (dd l) (.returned (.slice (some ⟨g, 0, none⟩) l.length cap)) W) := fun W e h2 h3 => by
    rw [e]
    exact ⟨_, rfl, h2, h3, rfl⟩
  generalize CmpPost w base 59 3 Lg.cs (.slice (some ⟨g, 0, none⟩) l.length cap) (dd l) = POST at HRET HALL ⊢
  obtain ⟨n, hnn⟩ : ∃ n, n = l.length := ⟨_, rfl⟩
  rw [← hnn] at HH HALL HRET h1 hn hl ⊢
  have HN := Lib.hid hnn
  have h1' : ¬ ((n : Int) < 2) := by omega
  clear h hnn
  go_enter Tryz.func130, Tryz.ntmps130
  go_wp2_with fail
  go_loopw [3] (fun i wr => ∃ k : Nat, k + 1 ≤ n ∧ i = .int .i64 ((k : Int) + 1) ∧ Hid (dd (l.take (k + 1)) = l.take (k + 1)) ∧ Hid (OwnM wr base 59 3 (.slice (some ⟨g, 0, none⟩) n cap) n (l.flatMap Lg.cs)) ∧ Hid (w.grownBy wr (some g))) (fun i _ => n + 2 - (intOf i).toNat)
  case atStart => exact ⟨0, by omega, rfl, by
    cases l with
    | nil => rfl
    | cons a r => rfl, HH.out, grown_refl _ _⟩
  case round =>
    clear HH
    obtain ⟨k, hk, rfl, HD, HO, HG⟩ := hrel
    have hv1 : IntKind.i64.wrap ((k : Int) + 1 - 1) = k := by rw [show (k : Int) + 1 - 1 = k by omega]; exact IntWalk.i64_in _ (by omega)
    by_cases hlt : k + 1 < n
    · obtain ⟨x, hx⟩ : ∃ x, l[k]? = some x := ⟨l[k]'(by have := HN.out; omega), List.getElem?_eq_getElem _⟩
      obtain ⟨y, hy⟩ : ∃ y, l[k + 1]? = some y := ⟨l[k + 1]'(by have := HN.out; omega), List.getElem?_eq_getElem _⟩
      have HX := Lib.hid hx
      have HY := Lib.hid hy
      obtain ⟨p0, p1, p2⟩ := own_lg HO.out (by omega) hx
      obtain ⟨q0, q1, q2⟩ := own_lg HO.out (by omega) hy
      have hlt' : (k : Int) + 1 < (n : Int) := by omega
      clear hx hy
      by_cases hxy : y = x
      · subst hxy
        have hne0 : ((y.g : Int) != (y.g : Int)) = false := by simp
        have hne1 : ((y.a : Int) != (y.a : Int)) = false := by simp
        have hne2 : ((y.b : Int) != (y.b : Int)) = false := by simp
        have he0 : ((y.g : Int) == (y.g : Int)) = true := by simp
        have he1 : ((y.a : Int) == (y.a : Int)) = true := by simp
        have he2 : ((y.b : Int) == (y.b : Int)) = true := by simp
        go_wp2_with fail
        go_quiet (fail)
        go_wp2_with fail
        have HS0 : Hid (∃ cur : List Lg, Cmp l cur (k + 2) (k + 1) ∧ OwnM wr base 59 3 (.slice (some ⟨g, 0, none⟩) n cap) n (cur.flatMap Lg.cs)) := ⟨l, Cmp.start HD.out HX.out HY.out, HO.out⟩
        clear p0 p1 p2 q0 q1 q2 hne0 hne1 hne2 he0 he1 he2 HO HX HY HD
        go_loopw [3, 5] (fun i i2 wq => ∃ (m j : Nat), i = .int .i64 (m : Nat) ∧ i2 = .int .i64 ((j : Int) + 1) ∧ k + 1 + j + 1 ≤ n ∧ Hid (∃ cur : List Lg, Cmp l cur (k + 1 + j + 1) m ∧ OwnM wq base 59 3 (.slice (some ⟨g, 0, none⟩) n cap) n (cur.flatMap Lg.cs)) ∧ Hid (w.grownBy wq (some g))) (fun _ i2 _ => n + 2 - (intOf i2).toNat)
        case atStart => exact ⟨k + 1, 0, by go_num, rfl, by omega, HS0.out, grown_drewN HG.out _⟩
        case round =>
          clear HS0 HG
          obtain ⟨m, j, rfl, rfl, hj, HS, HG⟩ := hrel
          obtain ⟨cur, hcm, ho⟩ := HS.out
          have hmk := hcm.k1
          have hcl := hcm.len
          have hmn : m < n := by omega
          have HCM := Lib.hid hcm
          have HO := Lib.hid ho
          have HNN : Hid (cur.length = n) := hcl.trans HN.out.symm
          clear HS hcl
          by_cases hlt2 : k + 1 + j + 1 < n
          · obtain ⟨x, hx⟩ : ∃ x, cur[k + 1 + j]? = some x := ⟨cur[k + 1 + j]'(by have := HNN.out; omega), List.getElem?_eq_getElem _⟩
            obtain ⟨z, hz⟩ : ∃ z, cur[k + 1 + j + 1]? = some z := ⟨cur[k + 1 + j + 1]'(by have := HNN.out; omega), List.getElem?_eq_getElem _⟩
            have HX : Hid (l[k + 1 + j]? = some x) := by
              show _ = _
              rw [← hcm.rest _ (by omega)]
              exact hx
            have HZ : Hid (l[k + 1 + j + 1]? = some z) := by
              show _ = _
              rw [← hcm.rest _ (by omega)]
              exact hz
            have hpx := own_lg ho (by omega) hx
            have hpz := own_lg ho (by omega) hz
            rw [show (k + 1 + j) * 3 = (k + 1) * 3 + j * 3 by omega] at hpx
            rw [show (k + 1 + j + 1) * 3 = (k + 1) * 3 + (j + 1) * 3 by omega] at hpz
            obtain ⟨p0, p1, p2⟩ := hpx
            obtain ⟨q0, q1, q2⟩ := hpz
            have hjj : (j : Int) + 1 < ((n - (k + 1) : Nat) : Int) := by omega
            have hj0 : 0 ≤ (j : Int) := by omega
            have hj1 : (j : Int) < ((n - (k + 1) : Nat) : Int) := by omega
            have hv2 : IntKind.i64.wrap ((j : Int) + 1 - 1) = j := by rw [show (j : Int) + 1 - 1 = j by omega]; exact IntWalk.i64_in _ (by omega)
            clear hx hz hcm ho
            by_cases hxz : z = x
            · subst hxz
              have he0 : ((z.g : Int) == (z.g : Int)) = true := by simp
              have he1 : ((z.a : Int) == (z.a : Int)) = true := by simp
              have he2 : ((z.b : Int) == (z.b : Int)) = true := by simp
              go_wp2_with fail
              go_quiet (fail)
              go_wp2_with fail
              exact ⟨⟨m, j + 1, rfl, by go_num, by omega, ⟨cur, HCM.out.skip HX.out HZ.out, HO.out⟩, grown_drewN HG.out _⟩, by simp [intOf]; omega⟩
            · have HD : Hid (¬ (z.g = x.g ∧ z.a = x.a ∧ z.b = x.b)) := lg_unlike hxz
              have HNE := Lib.hid hxz
              clear hxz
              have HTH : Hid (∀ q, (wr.drewN q).there g (m * 3) (#[Value.int .u32 (z.g : Nat), .int .u32 (z.a : Nat), .int .u32 (z.b : Nat)] : Array Value).size) := fun q => there_part (own_there HO.out (by omega)) hmn
              have HST : Hid (∀ q, Hid (∃ cur : List Lg, Cmp l cur (k + 1 + (j + 1) + 1) (m + 1) ∧ OwnM ((wr.drewN q).setCells g (m * 3) [.int .u32 (z.g : Nat), .int .u32 (z.a : Nat), .int .u32 (z.b : Nat)]) base 59 3 (.slice (some ⟨g, 0, none⟩) n cap) n (cur.flatMap Lg.cs))) := fun q => by
                refine ⟨cur.set m z, HCM.out.keep HX.out HZ.out HNE.out, ?_⟩
                rw [← flat_setL (by decide) Lg.cs_len cur m z (by rw [HNN.out]; exact hmn)]
                exact OwnM.setMany (Lg.cs z) (m * 3) (wr.drewN q) _ HO.out (by rw [Lg.cs_len]; omega)
              have HSG : Hid (∀ q, Hid (w.grownBy ((wr.drewN q).setCells g (m * 3) [.int .u32 (z.g : Nat), .int .u32 (z.a : Nat), .int .u32 (z.b : Nat)]) (some g))) := fun q => grown_trans (grown_drewN HG.out q) (grown_setCells g _ _ _)
              by_cases d0 : z.g = x.g
              · have he0 : ((z.g : Int) == (x.g : Int)) = true := by simp [d0]
                by_cases d1 : z.a = x.a
                · have he1 : ((z.a : Int) == (x.a : Int)) = true := by simp [d1]
                  have d2 : ¬ z.b = x.b := fun e => HD.out ⟨d0, d1, e⟩
                  have he2 : ((z.b : Int) == (x.b : Int)) = false := beq_eq_false_iff_ne.2 (by omega)
                  clear d0 d1 d2
                  go_wp2_with fail
                  go_quiet (fail)
                  go_wp2_with (with_reducible show wpList _ _ _ (_ :: _) _ _; refine wpList_store_mid rfl 59 (.tmp 51) (.tmp 50) rfl g (m * 3) #[.int .u32 (z.g : Nat), .int .u32 (z.a : Nat), .int .u32 (z.b : Nat)] rfl rfl (HTH.out _) (by kernel_rfl) (by kernel_rfl) ?_)
                  exact ⟨⟨m + 1, j + 1, by go_num, by go_num, by omega, HST.out _, HSG.out _⟩, by simp [intOf]; omega⟩
                · have he1 : ((z.a : Int) == (x.a : Int)) = false := beq_eq_false_iff_ne.2 (by omega)
                  clear d0 d1
                  go_wp2_with fail
                  go_quiet (fail)
                  go_wp2_with (with_reducible show wpList _ _ _ (_ :: _) _ _; refine wpList_store_mid rfl 59 (.tmp 51) (.tmp 50) rfl g (m * 3) #[.int .u32 (z.g : Nat), .int .u32 (z.a : Nat), .int .u32 (z.b : Nat)] rfl rfl (HTH.out _) (by kernel_rfl) (by kernel_rfl) ?_)
                  exact ⟨⟨m + 1, j + 1, by go_num, by go_num, by omega, HST.out _, HSG.out _⟩, by simp [intOf]; omega⟩
              · have he0 : ((z.g : Int) == (x.g : Int)) = false := beq_eq_false_iff_ne.2 (by omega)
                clear d0
                go_wp2_with fail
                go_quiet (fail)
                go_wp2_with (with_reducible show wpList _ _ _ (_ :: _) _ _; refine wpList_store_mid rfl 59 (.tmp 51) (.tmp 50) rfl g (m * 3) #[.int .u32 (z.g : Nat), .int .u32 (z.a : Nat), .int .u32 (z.b : Nat)] rfl rfl (HTH.out _) (by kernel_rfl) (by kernel_rfl) ?_)
                exact ⟨⟨m + 1, j + 1, by go_num, by go_num, by omega, HST.out _, HSG.out _⟩, by simp [intOf]; omega⟩
          · have hjj : ¬ ((j : Int) + 1 < ((n - (k + 1) : Nat) : Int)) := by omega
            obtain ⟨W, hr, hW, hWG⟩ : ∃ W, (∀ ty, (Builtin.clear_ #[38] ty #[.slice (some ⟨g, m * 3, none⟩) (n - m) (cap - m)]).run Tryz.prog wr = .ok (.tuple #[]) W) ∧ Hid (OwnM W base 59 3 (.slice (some ⟨g, 0, none⟩) m cap) m ((cur.flatMap Lg.cs).take (m * 3))) ∧ Hid (wr.grownBy W (some g)) := by
              obtain ⟨W, h1, h2, h3⟩ := clear_L HO.out hmn (cap - m) 0
              exact ⟨W, fun ty => h1, h2, h3⟩
            have HR : Hid (∃ cur : List Lg, Cmp l cur n m ∧ OwnM W base 59 3 (.slice (some ⟨g, 0, none⟩) m cap) m ((cur.flatMap Lg.cs).take (m * 3)) ∧ w.grownBy W (some g)) := ⟨cur, by rw [← show k + 1 + j + 1 = n by omega]; exact HCM.out, hW.out, grown_trans HG.out hWG.out⟩
            clear hcm ho
            go_wp2_with fail
            exact HRET.out _ _ HR
      · have HNE : Hid (dd (l.take (k + 1 + 1)) = l.take (k + 1 + 1)) := by
          show _ = _
          rw [dd_take l k x y HX.out HY.out, if_neg hxy, HD.out, List.take_add_one (i := k + 1), HY.out]
          rfl
        have HD2 : Hid (¬ (y.g = x.g ∧ y.a = x.a ∧ y.b = x.b)) := lg_unlike hxy
        clear hxy
        by_cases d0 : y.g = x.g
        · have he0 : ((y.g : Int) == (x.g : Int)) = true := by simp [d0]
          by_cases d1 : y.a = x.a
          · have he1 : ((y.a : Int) == (x.a : Int)) = true := by simp [d1]
            have d2 : ¬ y.b = x.b := fun e => HD2.out ⟨d0, d1, e⟩
            have he2 : ((y.b : Int) == (x.b : Int)) = false := beq_eq_false_iff_ne.2 (by omega)
            clear d0 d1 d2
            go_wp2_with fail
            go_quiet (fail)
            go_wp2_with fail
            exact ⟨⟨k + 1, by omega, by go_num, HNE.out, HO.out, grown_drewN HG.out _⟩, by simp [intOf]; omega⟩
          · have he1 : ((y.a : Int) == (x.a : Int)) = false := beq_eq_false_iff_ne.2 (by omega)
            clear d0 d1
            go_wp2_with fail
            go_quiet (fail)
            go_wp2_with fail
            exact ⟨⟨k + 1, by omega, by go_num, HNE.out, HO.out, grown_drewN HG.out _⟩, by simp [intOf]; omega⟩
        · have he0 : ((y.g : Int) == (x.g : Int)) = false := beq_eq_false_iff_ne.2 (by omega)
          clear d0
          go_wp2_with fail
          go_quiet (fail)
          go_wp2_with fail
          exact ⟨⟨k + 1, by omega, by go_num, HNE.out, HO.out, grown_drewN HG.out _⟩, by simp [intOf]; omega⟩
    · have hge : ¬ ((k : Int) + 1 < (n : Int)) := by omega
      have HE : Hid (dd l = l) := by
        have h1 := HD.out
        rwa [List.take_of_length_le (by have := HN.out; omega)] at h1
      have HOL : Hid (OwnL wr base 59 3 Lg.cs (.slice (some ⟨g, 0, none⟩) n cap) l) := by
        show OwnL _ _ _ _ _ _ _
        unfold OwnL
        rw [← HN.out]
        exact HO.out
      go_wp2_with fail
      exact HALL.out _ HE.out HOL.out HG.out
end Go.Proofs.YtkcojblflebomaaGreat
set_option linter.unusedVariables false
set_option linter.unusedSimpArgs false
namespace Go.Proofs.YtkcojblflebomaaGreat
open Go.RowKit Go.MapKept Go.Shelf
open Go.Lib hiding intOf

def mRd (w : World) (b : Nat) : Nat := match w.heap[b]? with
  | some (.cells cs _ _) => match cs[1]? with
    | some (Value.string s) => s.size
    | _ => 0
  | _ => 0
theorem mRd_at {w : World} {b : Nat} {s : ByteArray} (h : RdAt w b s) : mRd w b = s.size := by
  unfold RdAt at h
  unfold mRd
  rw [h]
  rfl
theorem asN_fit (v : ByteArray) : ∀ k, ∀ n ∈ asN 4 k v, n < 4294967296
  | 0, n, h => by cases h
  | k + 1, n, h => by
    rw [asN_succ] at h
    rcases List.mem_append.1 h with h | h
    · exact asN_fit v k n h
    · rw [List.mem_singleton.1 h]
      exact hd_u32 _
def take10 (v : ByteArray) (c : AtC) : AtC × Bool := if v.size = 0 ∨ v.size % 4 ≠ 0 ∨ 128 < v.size then (c, false) else ({ c with clus := asN 4 (v.size / 4) v }, true)
set_option maxRecDepth 100000 in
set_option maxHeartbeats 8000000 in
theorem take10s : Takes0 85 (fun v _ c => take10 v c) := by
  intro b c v four w hcl h hm
  obtain ⟨a, hc, ho, hac⟩ := h.x
  have HH := Lib.hid h
  have HC := Lib.hid hc
  have HO := Lib.hid ho
  have HAC := Lib.hid hac
  have hlt := hc.lt
  have HLT := Lib.hid hlt
  have hac0 : a.clus = [] := by
    have h1 : a.c.clus = a.clus := rfl
    rw [← h1, hac.1]
    exact hcl
  obtain ⟨hka, hkc⟩ := hac.2 hac0
  have HKA : Hid (a.kA = none ∧ a.clus = [] ∧ a.kC = 0) := ⟨hka, hac0, hkc⟩
  have HNEW := Lib.hid new_any
  have HNU := Lib.hid number_nx
  have HLE := Lib.hid left_any
  obtain ⟨i0, hi, hz0, hz1, hz2⟩ := info_parts infoU32
  have HI := Lib.hid hi
  have HZ0 := Lib.hid hz0
  have HZ1 := Lib.hid hz1
  have HZ2 := Lib.hid hz2
  have z0 := bytes_none v
  obtain ⟨q0, hq0⟩ : ∃ q, q = (v.size == 0) := ⟨_, rfl⟩
  rw [← hq0] at z0
  clear h hc ho hac hlt hcl hka hkc hac0 hi hz0 hz1 hz2
  by_cases hb0 : v.size = 0
  · have HT : Hid (take10 v c = (c, false)) := if_pos (.inl hb0)
    obtain rfl : q0 = true := by rw [hq0, hb0]; rfl
    clear hq0 hb0
    go_enter Tryz.func85, Tryz.ntmps85
    go_wp2_with fail
    go_ret
    refine ⟨by rw [HT.out]; rfl, ?_, Tk.refl _ _⟩
    rw [HT.out]
    exact HH.out
  obtain rfl : q0 = false := by rw [hq0]; exact beq_eq_false_iff_ne.2 hb0
  clear hq0
  by_cases hb1 : v.size % 4 = 0
  case neg =>
    have HT : Hid (take10 v c = (c, false)) := if_pos (.inr (.inl hb1))
    have z1 : ((v.size : Int) % 4 != 0) = true := bne_iff_ne.2 (by omega)
    have z1' : ((v.size : Int) % 4 == 0) = false := beq_eq_false_iff_ne.2 (by omega)
    have z2 : ((v.size : Int).tmod 4 != 0) = true := by rw [Int.tmod_eq_emod_of_nonneg (by omega)]; exact z1
    have z2' : ((v.size : Int).tmod 4 == 0) = false := by rw [Int.tmod_eq_emod_of_nonneg (by omega)]; exact z1'
    clear hb1
    go_enter Tryz.func85, Tryz.ntmps85
    go_wp2_with fail
    go_ret
    refine ⟨by rw [HT.out]; rfl, ?_, Tk.refl _ _⟩
    rw [HT.out]
    exact HH.out
  have z1 : ((v.size : Int) % 4 != 0) = false := by
    have : (v.size : Int) % 4 = 0 := by omega
    rw [this]
    rfl
  have z1' : ((v.size : Int) % 4 == 0) = true := beq_iff_eq.2 (by omega)
  have z2 : ((v.size : Int).tmod 4 != 0) = false := by rw [Int.tmod_eq_emod_of_nonneg (by omega)]; exact z1
  have z2' : ((v.size : Int).tmod 4 == 0) = true := by rw [Int.tmod_eq_emod_of_nonneg (by omega)]; exact z1'
  have HB1 := Lib.hid hb1
  by_cases hb2 : 128 < v.size
  · have HT : Hid (take10 v c = (c, false)) := if_pos (.inr (.inr hb2))
    clear hb1
    go_enter Tryz.func85, Tryz.ntmps85
    go_wp2_with fail
    go_ret
    refine ⟨by rw [HT.out]; rfl, ?_, Tk.refl _ _⟩
    rw [HT.out]
    exact HH.out
  have HT : Hid (take10 v c = ({ c with clus := asN 4 (v.size / 4) v }, true)) := if_neg (by omega)
  clear hb1
  go_enter Tryz.func85, Tryz.ntmps85
  go_wp2_with fail
  refine (HNEW.out v w).mono ?_
  rintro e w1 ⟨rfl, hw1⟩
  have HR1 : Hid (RdAt w1 w.heap.size v) := by
    show RdAt _ _ _
    rw [hw1]
    exact heap_alloc_new w _
  have HBL1 : Hid (Below w.heap.size w w1) := by
    rw [hw1]
    exact (Below.refl _ _).alloc (Nat.le_refl _) _
  have HC1 : Hid (CellsAt w1 b (a.ar.setIfInBounds 15 (.slice none 0 0)) 40) := by
    have h := HC.out.below HBL1.out HLT.out
    have e : a.ar.setIfInBounds 15 (.slice none 0 0) = a.ar := by
      have h1 : a.ar = a.ar.setIfInBounds 15 (.slice a.kA a.clus.length a.kC) := rfl
      rw [h1, HKA.out.1, HKA.out.2.1, HKA.out.2.2]
      rfl
    show CellsAt _ _ _ _
    rw [e]
    exact h
  clear hw1
  go_wp2_with fail
  go_loopw [8] (fun _x wr => ∃ (k : Nat) (A : Option Addr) (cK : Nat), k * 4 ≤ v.size ∧ Hid (RdAt wr w.heap.size (nxN 4 k v)) ∧ Hid (CellsAt wr b (a.ar.setIfInBounds 15 (.slice A k cK)) 40) ∧ Hid (OwnL wr w.heap.size 35 1 u1 (.slice A k cK) (asN 4 k v)) ∧ Hid (∀ i, i < w.heap.size → i ≠ b → wr.heap[i]? = w.heap[i]?) ∧ Hid (Below b w wr)) (fun _x wr => mRd wr w.heap.size)
  case atStart => exact ⟨0, none, 0, by omega, HR1.out, HC1.out, OwnL.nil _ _ _ _ _, fun i h1 _ => HBL1.out.block i h1, HBL1.out.mono (Nat.le_of_lt HLT.out)⟩
  case round =>
    clear HR1 HBL1 HC1
    obtain ⟨k, A, cK, hk, HR, HC2, HOW, HKP, HBB⟩ := hrel
    have hrl := HR.out.lt
    have hts : (nxN 4 k v).size = v.size - k * 4 := nxN_size 4 k v
    have HNX := Lib.hid (nxN_succ 4 k v)
    have HAS := Lib.hid (asN_succ 4 k v)
    have HMR := Lib.hid (mRd_at HR.out)
    obtain ⟨t, ht⟩ : ∃ t, t = nxN 4 k v := ⟨_, rfl⟩
    rw [← ht] at HR hts HNX HAS HMR
    clear ht
    go_wp2_with fail
    refine (HLE.out w.heap.size t _ HR.out).mono ?_
    rintro e w2 ⟨rfl, rfl⟩
    by_cases hlt : k * 4 < v.size
    · have h4 : 4 ≤ t.size := by have := HB1.out; omega
      have h0 : 0 < t.size := by omega
      go_wp2_with fail
      refine (HNU.out w.heap.size t 4 _ HR.out (by decide) (by decide) h4 (by omega)).mono ?_
      rintro e w3 ⟨rfl, hr3, hg3⟩
      have HR3 : Hid (RdAt w3 w.heap.size (nx t 4)) := hr3
      have HC3 : Hid (CellsAt w3 b (a.ar.setIfInBounds 15 (.slice A k cK)) 40) := HC2.out.row hg3 (by have := HLT.out; omega)
      have HOW3 : Hid (OwnL w3 w.heap.size 35 1 u1 (.slice A k cK) (asN 4 k v)) := HOW.out.off hg3 (show CellsAt w2 w.heap.size #[.bool true, .string t] 110 from HR.out) (by decide)
      have HKP3 : Hid (∀ i, i < w.heap.size → i ≠ b → w3.heap[i]? = w.heap[i]?) := fun i h1 h2 => (hg3.block i (by omega) (fun e => by injection e with e; omega)).trans (HKP.out i h1 h2)
      have HBB3 : Hid (Below b w w3) := HBB.out.grown hg3 (by have := HLT.out; omega) (fun q hq => by cases hq; exact Nat.le_of_lt HLT.out)
      have hrl3 : w.heap.size < w3.heap.size := Nat.lt_of_lt_of_le hrl hg3.size
      have HTS : Hid ((nx t 4).size = t.size - 4) := nx_size t 4
      have HMEAS : Hid (mRd w2 w.heap.size = t.size) := HMR.out
      obtain ⟨n, hn⟩ : ∃ n, n = hd t 4 := ⟨_, rfl⟩
      have hn4 : n < 4294967296 := by rw [hn]; exact hd_u32 t
      rw [← hn] at HAS ⊢
      clear hr3 hg3 hn HR HC2 HOW HKP HBB HMR
      have zw : IntKind.u32.wrap ((n : Nat) : Int) = ((n : Nat) : Int) := by rw [IntKind.wrap_u32]; omega
      have c15 := (HC3.out.c 15).trans (show (a.ar.setIfInBounds 15 (Value.slice A k cK))[15]? = some (.slice A k cK) from rfl)
      have f15 := HC3.out.unfrozen 15
      have HCB : Hid (CellsAt (w3.alloc (.cells #[.int .u32 (n : Nat)] 35)) w3.heap.size #[.int .u32 (n : Nat)] 35) := CellsAt.new _ _ _
      have HS := Lib.hid (Src.block (P := Tryz.prog) (t2 := 36) (size := 1) (m := 1) (c := 1) Tryz.underlying36 HCB.out rfl (by simp [Value.oneCell']))
      have HOa := Lib.hid (HOW3.out.alloc (.cells #[.int .u32 (n : Nat)] 35))
      have HBS : Hid (w.heap.size ≤ (w3.alloc (.cells #[.int .u32 (n : Nat)] 35)).heap.size) := by show _ ≤ _; simp; omega
      have HM : Hid (k + 1 ≤ maxLen) := by show _ ≤ _; unfold maxLen; omega
      have HY : Hid ((k + 1) * 4 ≤ 140737488355328) := by show _ ≤ _; omega
      have HOB : Hid (OwnM (w3.alloc (.cells #[.int .u32 (n : Nat)] 35)) w.heap.size 35 1 (.slice A k cK) k ((asN 4 k v).flatMap u1)) := by
        have h := HOa.out
        unfold OwnL at h
        rwa [asN_len] at h
      have HCa : Hid (CellsAt (w3.alloc (.cells #[.int .u32 (n : Nat)] 35)) b (a.ar.setIfInBounds 15 (.slice A k cK)) 40) := HC3.out.alloc _
      have HRa : Hid (RdAt (w3.alloc (.cells #[.int .u32 (n : Nat)] 35)) w.heap.size (nx t 4)) := (Below.heap_alloc _ _ _ HR3.out.lt).trans HR3.out
      have HBa : Hid (Below b w (w3.alloc (.cells #[.int .u32 (n : Nat)] 35))) := HBB3.out.alloc (by have := HLT.out; omega) _
      go_wp2_with (at_builtin; refine wpList_append_m rfl (.tmp 37) (.tmp 40) 36 36 rfl w.heap.size 35 i0 _ 1 4 Tryz.underlying36 HI.out HZ0.out HZ1.out HZ2.out rfl (by decide) (.slice A k cK) k ((asN 4 k v).flatMap u1) rfl HOB.out _ 1 _ rfl HS.out HM.out HY.out HBS.out ?_)
      intro v' w5 hown hgr hat
      obtain ⟨A6, c6, rfl⟩ := hown.form
      have hob : ∀ q, (Value.slice A k cK).ownBlock = some q → w.heap.size ≤ q := fun q hq => (OwnM.lt HOB.out q hq).1
      have HN5 : Hid (OwnL w5 w.heap.size 35 1 u1 (.slice A6 (k + 1) c6) (asN 4 (k + 1) v)) := by
        show OwnL _ _ _ _ _ _ _
        rw [HAS.out]
        refine OwnL.snoc ?_
        rw [asN_len]
        exact hown
      have HC5 : Hid (CellsAt w5 b (a.ar.setIfInBounds 15 (.slice A k cK)) 40) := HCa.out.own hgr (fun e => by have h1 := hob _ e.symm; have h2 := HLT.out; omega)
      have HR5 : Hid (RdAt w5 w.heap.size (nx t 4)) := (hgr.block _ HRa.out.lt (fun e => by
        rcases HOB.out.2 with ⟨h1, _⟩ | ⟨g, cap, cur, fr, h1, _, hg, _⟩
        · rw [h1] at e
          simp [Value.ownBlock] at e
        · rw [h1] at e
          simp [Value.ownBlock] at e
          rw [← e] at hg
          have h2 : (w3.alloc (.cells #[.int .u32 (n : Nat)] 35)).heap[w.heap.size]? = some (.cells #[.bool true, .string (nx t 4)] 110 (0, 0)) := HRa.out
          rw [h2] at hg
          injection hg with hg
          injection hg with _ hg
          exact absurd hg (by decide))).trans HRa.out
      have hs5 : w3.heap.size ≤ w5.heap.size := by have := hgr.size; simp at this; omega
      have HKP5 : Hid (∀ i, i < w.heap.size → i ≠ b → w5.heap[i]? = w.heap[i]?) := fun i h1 h2 => (hgr.block i (by simp; omega) (fun e => by have := hob _ e.symm; omega)).trans ((Below.heap_alloc _ _ _ (by omega)).trans (HKP3.out i h1 h2))
      have HBB5 : Hid (Below b w w5) := HBa.out.grown hgr (by simp; have := HLT.out; omega) (fun q hq => by have := hob _ hq; have := HLT.out; omega)
      have d15 := (HC5.out.c 15).trans (show (a.ar.setIfInBounds 15 (Value.slice A k cK))[15]? = some (.slice A k cK) from rfl)
      have g15 := HC5.out.unfrozen 15
      clear hown hgr hat c15 f15 hob HOB HOa HCa HRa HBa
      go_wp2_with fail
      have HCF : Hid (CellsAt (w5.setCell ⟨b, 15, none⟩ (.slice A6 (k + 1) c6)) b (a.ar.setIfInBounds 15 (.slice A6 (k + 1) c6)) 40) := HC5.out.setAt 15 _
      have HRF : Hid (RdAt (w5.setCell ⟨b, 15, none⟩ (.slice A6 (k + 1) c6)) w.heap.size (nxN 4 (k + 1) v)) := by
        show RdAt _ _ _
        rw [HNX.out]
        exact HR5.out.setOther (by have := HLT.out; omega)
      refine ⟨⟨k + 1, A6, c6, by omega, HRF.out, HCF.out, OwnM.setCell HN5.out (p := ⟨b, 15, none⟩) (fun q hq => by have h1 := (OwnM.lt HN5.out q hq).1; have h2 := HLT.out; show q ≠ b; omega) _, fun i h1 h2 => (Below.heap_setCell w5 _ _ i (by show i ≠ b; exact h2)).trans (HKP5.out i h1 h2), HBB5.out.setCell (Nat.le_refl b) _⟩, ?_⟩
      show mRd _ _ < mRd _ _
      rw [mRd_at HRF.out, HMEAS.out, HNX.out, HTS.out]
      omega
    · have hke : v.size / 4 = k := by have := HB1.out; omega
      have ht0 : ¬ 0 < t.size := by omega
      have HKE := Lib.hid hke
      clear hke
      go_wp2_with fail
      go_ret
      refine ⟨by rw [HT.out]; rfl, ?_, HBB.out, fun i h1 h2 _ => HKP.out i h1 h2⟩
      rw [HT.out, HKE.out]
      have hcf : CellsAt w2 b ({ a with kA := A, clus := asN 4 k v, kC := cK } : Atr).ar 40 := by
        show CellsAt _ _ #[_, _, _, _, _, _, _, _, _, _, _, _, _, _, _, .slice A (asN 4 k v).length cK] _
        rw [asN_len]
        exact HC2.out
      have hkl : OwnL w2 (b + 1) 35 1 u1 (.slice A (asN 4 k v).length cK) (asN 4 k v) := by
        rw [asN_len]
        exact OwnM.lower HOW.out (by have := HLT.out; omega)
      exact ⟨⟨{ a with kA := A, clus := asN 4 k v, kC := cK }, hcf, { HO.out.keep (fun i h1 h2 => HKP.out i h2 (by omega)) with clus := hkl, kfit := asN_fit v k }, by rw [← HAC.out.1]; rfl, fun h => by
        have h1 := congrArg List.length h
        rw [asN_len] at h1
        have : k = 0 := h1
        omega⟩⟩
end Go.Proofs.YtkcojblflebomaaGreat
set_option linter.unusedVariables false
set_option linter.unusedSimpArgs false
namespace Go.Proofs.YtkcojblflebomaaGreat
open Go.RowKit Go.MapKept Go.Shelf
open Go.Lib hiding intOf

/-- what reads one thing of so many bytes -/
def OneRd {α : Type} (f : FuncId) (S : Nat) (E : α → Value) (one : ByteArray → α) : Prop :=
  ∀ (b : Nat) (s : ByteArray) (w : World), RdAt w b s → S ≤ s.size → (s.size : Int) ≤ 140737488351232 → Calls Tryz.prog f #[.pointer (some ⟨b, 0, none⟩)] w fun e w' => e = .returned (E (one s)) ∧ RdAt w' b (nx s S) ∧ w.grownBy w' (some b)
set_option maxHeartbeats 4000000 in
theorem one4 : OneRd 113 4 (fun n : Nat => Value.int .u32 (n : Nat)) (fun s => hd s 4) := by
  intro b s w h hs hm
  show Calls _ _ _ _ fun e w' => e = .returned (.int .u32 (hd s 4 : Nat)) ∧ RdAt w' b (nx s 4) ∧ w.grownBy w' (some b)
  have HNU := Lib.hid (number_nx b s 4 w h (by decide) (by decide) hs (by omega))
  have hlt := h.lt
  have hn4 : hd s 4 < 4294967296 := hd_u32 s
  generalize hd s 4 = n at HNU hn4 ⊢
  have zw : IntKind.u32.wrap ((n : Nat) : Int) = ((n : Nat) : Int) := by rw [IntKind.wrap_u32]; omega
  clear h
  go_enter Tryz.func113, Tryz.ntmps113
  go_wp2_with fail
  refine HNU.out.mono ?_
  rintro e w1 ⟨rfl, hr, hg⟩
  have HR := Lib.hid hr
  have HG := Lib.hid hg
  clear hr hg
  go_wp2_with fail
  go_ret
  exact ⟨rfl, HR.out, HG.out⟩
theorem or_join32 (v c : Int) (h0 : 0 ≤ v) (h1 : v < 4294967296) (c0 : 0 ≤ c) (c1 : c < 4294967296) : bits .or .u64 (v * 4294967296) c = v * 4294967296 + c := by
  rw [u64_or _ _ (by omega) (by omega) (by omega) (by omega), nat_join 32 _ _ (by omega) (by omega)]
  omega
theorem beVal_cat : ∀ (r l : List UInt8), beVal (l ++ r) = beVal l * 256 ^ r.length + beVal r := by
  intro r
  induction r with
  | nil => intro l; simp [beVal]
  | cons a r ih =>
    intro l
    have h1 := ih (l ++ [a])
    have h2 := ih [a]
    rw [List.append_assoc, beVal_snoc] at h1
    have e : beVal [a] = a.toNat := by simp [beVal]
    rw [e] at h2
    simp only [List.singleton_append] at h1 h2
    rw [h1, h2, List.length_cons, Nat.pow_succ, Nat.add_mul, Nat.mul_assoc, Nat.mul_comm 256]
    omega
theorem hd_eight (s : ByteArray) (h : 8 ≤ s.size) : hd s 8 = hd s 4 * 4294967296 + hd (nx s 4) 4 := by
  unfold hd
  rw [nx_list]
  have e : s.data.toList.take 8 = s.data.toList.take 4 ++ (s.data.toList.drop 4).take 4 := by rw [← List.take_add]
  have hl : ((s.data.toList.drop 4).take 4).length = 4 := by
    have : s.data.toList.length = s.size := Array.length_toList
    rw [List.length_take, List.length_drop]
    omega
  rw [e, beVal_cat, hl]
theorem rd4 (b : Nat) (s : ByteArray) (w : World) (h : RdAt w b s) (hs : 4 ≤ s.size) (hm : (s.size : Int) ≤ 140737488351232) : Calls Tryz.prog 113 #[.pointer (some ⟨b, 0, none⟩)] w fun e w' => e = .returned (.int .u32 (hd s 4 : Nat)) ∧ RdAt w' b (nx s 4) ∧ w.grownBy w' (some b) := one4 b s w h hs hm
set_option maxHeartbeats 4000000 in
theorem one8 : OneRd 115 8 (fun n : Nat => Value.int .u64 (n : Nat)) (fun s => hd s 8) := by
  intro b s w h hs hm
  show Calls _ _ _ _ fun e w' => e = .returned (.int .u64 (hd s 8 : Nat)) ∧ RdAt w' b (nx s 8) ∧ w.grownBy w' (some b)
  have HON := Lib.hid rd4
  have HR := Lib.hid h
  have HV := Lib.hid (hd_eight s hs)
  have HT : Hid (nx (nx s 4) 4 = nx s 8) := nx_nx s 4 4
  have HTS : Hid ((nx s 4).size = s.size - 4) := nx_size s 4
  have h1 : hd s 4 < 4294967296 := hd_u32 s
  have h2 : hd (nx s 4) 4 < 4294967296 := hd_u32 _
  clear h
  go_enter Tryz.func115, Tryz.ntmps115
  go_wp2_with fail
  refine (HON.out b s w HR.out (by omega) hm).mono ?_
  rintro e w1 ⟨rfl, hr1, hg1⟩
  have HR1 := Lib.hid hr1
  have HG1 := Lib.hid hg1
  clear hr1 hg1
  go_wp2_with fail
  refine (HON.out b _ w1 HR1.out (by rw [HTS.out]; omega) (by rw [HTS.out]; omega)).mono ?_
  rintro e w2 ⟨rfl, hr2, hg2⟩
  have HR2 := Lib.hid hr2
  have HG2 := Lib.hid hg2
  clear hr2 hg2
  go_wp2_with fail
  go_ret
  refine ⟨?_, by rw [← HT.out]; exact HR2.out, grown_trans HG1.out HG2.out⟩
  rw [HV.out, Int.natCast_add, Int.natCast_mul]
  show Ending.returned (Value.int .u64 (bits .or .u64 _ _)) = _
  rw [or_join32 _ _ (by omega) (by omega) (by omega) (by omega)]
  rfl
theorem lg_size : (Tryz.prog.info? 59).map (·.size) = some 3 := by kernel_rfl
set_option maxHeartbeats 4000000 in
theorem one12 : OneRd 117 12 (fun x : Lg => Value.agg x.cs.toArray) (fun s => ⟨hd s 4, hd (nx s 4) 4, hd (nx s 8) 4⟩) := by
  intro b s w h hs hm
  show Calls _ _ _ _ fun e w' => e = .returned (.agg #[.int .u32 (hd s 4 : Nat), .int .u32 (hd (nx s 4) 4 : Nat), .int .u32 (hd (nx s 8) 4 : Nat)]) ∧ RdAt w' b (nx s 12) ∧ w.grownBy w' (some b)
  have HON := Lib.hid rd4
  have HTS : Hid ((nx s 4).size = s.size - 4) := nx_size s 4
  have HTS2 : Hid ((nx s 8).size = s.size - 8) := nx_size s 8
  have hlt := h.lt
  obtain ⟨V, hV⟩ : ∃ V, V = w.alloc (.cells #[.int .u32 0, .int .u32 0, .int .u32 0] 59) := ⟨_, rfl⟩
  have HC0 : Hid (CellsAt V w.heap.size #[.int .u32 0, .int .u32 0, .int .u32 0] 59) := by rw [hV]; exact CellsAt.new _ _ _
  have HR0 : Hid (RdAt V b s) := by rw [hV]; exact (Below.heap_alloc _ _ _ h.lt).trans h
  have HG0 : Hid (w.grownBy V (some b)) := by rw [hV]; exact grown_of_below ((Below.refl _ _).alloc (Nat.le_refl _) _) _
  have HT : Hid (nx (nx s 4) 4 = nx s 8) := nx_nx s 4 4
  have HT2 : Hid (nx (nx s 8) 4 = nx s 12) := nx_nx s 8 4
  clear h
  go_enter Tryz.func117, Tryz.ntmps117
  go_wp2_with fail
  rw [← hV]
  clear hV
  refine (HON.out b s V HR0.out (by omega) hm).mono ?_
  rintro e w1 ⟨rfl, hr1, hg1⟩
  have HR1 := Lib.hid hr1
  have HC1 : Hid (CellsAt w1 w.heap.size #[.int .u32 0, .int .u32 0, .int .u32 0] 59) := HC0.out.row hg1 (by omega)
  have HG1 : Hid (w.grownBy w1 (some b)) := grown_trans HG0.out hg1
  obtain ⟨n1, hn1⟩ : ∃ n, n = hd s 4 := ⟨_, rfl⟩
  rw [← hn1]
  have HN1 := Lib.hid hn1
  clear hn1
  clear hr1 hg1 HC0 HR0 HG0
  have HD1 : Hid (CellsAt (w1.alloc (.cells #[.int .u32 0, .int .u32 0, .int .u32 0] 59)) w1.heap.size #[.int .u32 0, .int .u32 0, .int .u32 0] 59) := CellsAt.new _ _ _
  go_wp2_with (with_reducible show wpList _ _ _ (_ :: _) _ _; refine wpList_store_row rfl 59 (.tmp 3) (.tmp 6) rfl w1.heap.size #[.int .u32 (n1 : Nat), .int .u32 0, .int .u32 0] rfl rfl 59 #[.int .u32 0, .int .u32 0, .int .u32 0] HD1.out lg_size rfl rfl ?_)
  obtain ⟨V1, hV1⟩ : ∃ V1, V1 = w1.alloc (.cells #[.int .u32 (n1 : Nat), .int .u32 0, .int .u32 0] 59) := ⟨_, rfl⟩
  rw [← hV1]
  have hl1 : b < w1.heap.size := HR1.out.lt
  have hl0 : w.heap.size < w1.heap.size := HC1.out.lt
  have hs1 : V1.heap.size = w1.heap.size + 1 := by rw [hV1]; simp
  have HE1 : Hid (CellsAt V1 w1.heap.size #[.int .u32 (n1 : Nat), .int .u32 0, .int .u32 0] 59) := by rw [hV1]; exact CellsAt.new _ _ _
  have HRV : Hid (RdAt V1 b (nx s 4)) := by rw [hV1]; exact (Below.heap_alloc _ _ _ hl1).trans HR1.out
  have HCV : Hid (CellsAt V1 w.heap.size #[.int .u32 0, .int .u32 0, .int .u32 0] 59) := by rw [hV1]; exact HC1.out.alloc _
  have HGV : Hid (w.grownBy V1 (some b)) := by rw [hV1]; exact grown_trans HG1.out (grown_of_below ((Below.refl _ _).alloc (Nat.le_refl _) _) _)
  obtain ⟨g, hg⟩ : ∃ g, g = w1.heap.size := ⟨_, rfl⟩
  rw [← hg] at HE1 hl1 hl0 ⊢
  clear hV1 HR1 HC1 HG1 HD1 hs1 hg
  refine (HON.out b _ V1 HRV.out (by rw [HTS.out]; omega) (by rw [HTS.out]; omega)).mono ?_
  rintro e w2 ⟨rfl, hr2, hg2⟩
  have HR2 : Hid (RdAt w2 b (nx s 8)) := by rw [← HT.out]; exact hr2
  have HC2 : Hid (CellsAt w2 w.heap.size #[.int .u32 0, .int .u32 0, .int .u32 0] 59) := HCV.out.row hg2 (by omega)
  have HE2 : Hid (CellsAt w2 g #[.int .u32 (n1 : Nat), .int .u32 0, .int .u32 0] 59) := HE1.out.row hg2 (by omega)
  have HG2 : Hid (w.grownBy w2 (some b)) := grown_trans HGV.out hg2
  obtain ⟨n2, hn2⟩ : ∃ n, n = hd (nx s 4) 4 := ⟨_, rfl⟩
  rw [← hn2]
  have HN2 := Lib.hid hn2
  clear hn2
  clear hr2 hg2 HRV HCV HGV HE1
  have e0 := (HE2.out.c 1).trans (show (#[Value.int .u32 (n1 : Nat), .int .u32 0, .int .u32 0] : Array Value)[1]? = some (.int .u32 0) from rfl)
  have e1 := HE2.out.unfrozen 1
  go_wp2_with fail
  obtain ⟨V2, hV2⟩ : ∃ V2, V2 = w2.setCell ⟨g, 1, none⟩ (.int .u32 (n2 : Nat)) := ⟨_, rfl⟩
  rw [← hV2]
  have HE3 : Hid (CellsAt V2 g #[.int .u32 (n1 : Nat), .int .u32 (n2 : Nat), .int .u32 0] 59) := by rw [hV2]; exact HE2.out.setAt 1 _
  have HR3 : Hid (RdAt V2 b (nx s 8)) := by rw [hV2]; exact (Below.heap_setCell w2 _ _ b (show b ≠ g by omega)).trans HR2.out
  have HC3 : Hid (CellsAt V2 w.heap.size #[.int .u32 0, .int .u32 0, .int .u32 0] 59) := by rw [hV2]; exact (Below.heap_setCell w2 _ _ w.heap.size (show w.heap.size ≠ g by omega)).trans HC2.out
  have HG3 : Hid (w.grownBy V2 (some b)) := by
    rw [hV2]
    have h := grown_setCell w2 ⟨g, 1, none⟩ (.int .u32 (n2 : Nat))
    have h1 := HG2.out
    exact ⟨h.os.trans h1.os, h.tape.trans h1.tape, h.output.trans h1.output, Nat.le_trans h1.size h.size, fun i hi hx => (Below.heap_setCell w2 _ _ i (show i ≠ g by omega)).trans (h1.block i hi hx)⟩
  clear hV2 e0 e1 HE2 HR2 HC2 HG2
  refine (HON.out b _ V2 HR3.out (by rw [HTS2.out]; omega) (by rw [HTS2.out]; omega)).mono ?_
  rintro e w3 ⟨rfl, hr3, hg3⟩
  have HR4 : Hid (RdAt w3 b (nx s 12)) := by rw [← HT2.out]; exact hr3
  have HC4 : Hid (CellsAt w3 w.heap.size #[.int .u32 0, .int .u32 0, .int .u32 0] 59) := HC3.out.row hg3 (by omega)
  have HE4 : Hid (CellsAt w3 g #[.int .u32 (n1 : Nat), .int .u32 (n2 : Nat), .int .u32 0] 59) := HE3.out.row hg3 (by omega)
  have HG4 : Hid (w.grownBy w3 (some b)) := grown_trans HG3.out hg3
  obtain ⟨n3, hn3⟩ : ∃ n, n = hd (nx s 8) 4 := ⟨_, rfl⟩
  rw [← hn3]
  have HN3 := Lib.hid hn3
  clear hn3
  clear hr3 hg3 HR3 HC3 HG3 HE3
  have e0 := (HE4.out.c 2).trans (show (#[Value.int .u32 (n1 : Nat), .int .u32 (n2 : Nat), .int .u32 0] : Array Value)[2]? = some (.int .u32 0) from rfl)
  have e1 := HE4.out.unfrozen 2
  go_upto_region 4 with fail
  obtain ⟨V3, hV3⟩ : ∃ V3, V3 = w3.setCell ⟨g, 2, none⟩ (.int .u32 (n3 : Nat)) := ⟨_, rfl⟩
  rw [← hV3]
  have HE5 : Hid (CellsAt V3 g #[.int .u32 (n1 : Nat), .int .u32 (n2 : Nat), .int .u32 (n3 : Nat)] 59) := by rw [hV3]; exact HE4.out.setAt 2 _
  have HR5 : Hid (RdAt V3 b (nx s 12)) := by rw [hV3]; exact (Below.heap_setCell w3 _ _ b (show b ≠ g by omega)).trans HR4.out
  have HC5 : Hid (CellsAt V3 w.heap.size #[.int .u32 0, .int .u32 0, .int .u32 0] 59) := by rw [hV3]; exact (Below.heap_setCell w3 _ _ w.heap.size (show w.heap.size ≠ g by omega)).trans HC4.out
  have HG5 : Hid (w.grownBy V3 (some b)) := by
    rw [hV3]
    have h := grown_setCell w3 ⟨g, 2, none⟩ (.int .u32 (n3 : Nat))
    have h1 := HG4.out
    exact ⟨h.os.trans h1.os, h.tape.trans h1.tape, h.output.trans h1.output, Nat.le_trans h1.size h.size, fun i hi hx => (Below.heap_setCell w3 _ _ i (show i ≠ g by omega)).trans (h1.block i hi hx)⟩
  clear hV3 e0 e1 HE4 HR4 HC4 HG4
  obtain ⟨c0, c1, c2⟩ := HE5.out.c3
  go_wp2_with (with_reducible show wpList _ _ _ (⟨none, _, _, _, _, _⟩ :: _) _ _; have hstop : True := trivial; revert hstop)
  intro _
  refine wpList_store_row rfl 59 (.tmp 2) (.tmp 13) rfl w.heap.size #[.int .u32 (n1 : Nat), .int .u32 (n2 : Nat), .int .u32 (n3 : Nat)] rfl rfl 59 #[.int .u32 0, .int .u32 0, .int .u32 0] HC5.out (by kernel_rfl) (by kernel_rfl) (by kernel_rfl) ?_
  have HRF : Hid (RdAt (V3.setRow w.heap.size #[.int .u32 (n1 : Nat), .int .u32 (n2 : Nat), .int .u32 (n3 : Nat)]) b (nx s 12)) := (setRow_other V3 w.heap.size b _ (by omega)).trans HR5.out
  have HGF : Hid (w.grownBy (V3.setRow w.heap.size #[.int .u32 (n1 : Nat), .int .u32 (n2 : Nat), .int .u32 (n3 : Nat)]) (some b)) := by
    have h1 := HG5.out
    exact ⟨h1.os, h1.tape, h1.output, by rw [setRow_size]; exact h1.size, fun i hi hx => (setRow_other V3 w.heap.size i _ (by omega)).trans (h1.block i hi hx)⟩
  have HCG : Hid (CellsAt (V3.setRow w.heap.size #[.int .u32 (n1 : Nat), .int .u32 (n2 : Nat), .int .u32 (n3 : Nat)]) w.heap.size #[.int .u32 (n1 : Nat), .int .u32 (n2 : Nat), .int .u32 (n3 : Nat)] 59) := setRow_heap V3 w.heap.size _ _ _ _ HC5.out
  clear c0 c1 c2
  go_wp2_with fail
  exact bodyPost_ret (results_cell_row rfl _ _ w.heap.size 59 #[.int .u32 (n1 : Nat), .int .u32 (n2 : Nat), .int .u32 (n3 : Nat)] (0, 0) _ rfl HCG.out Tryz.underlying59 rfl lg_size) rfl ⟨by rw [HN1.out, HN2.out, HN3.out], HRF.out, HGF.out⟩
end Go.Proofs.YtkcojblflebomaaGreat
set_option linter.unusedVariables false
set_option linter.unusedSimpArgs false
namespace Go.Proofs.YtkcojblflebomaaGreat
open Go.RowKit Go.MapKept Go.Shelf
open Go.Lib hiding intOf
open Go.Sort hiding Below

/-- things of so many bytes each, one behind the other -/
def oneN {α : Type} (S : Nat) (one : ByteArray → α) : Nat → ByteArray → List α
  | 0, _ => []
  | k + 1, s => one s :: oneN S one k (nx s S)
theorem oneN_succ {α : Type} (S : Nat) (one : ByteArray → α) : ∀ (k : Nat) (s : ByteArray), oneN S one (k + 1) s = oneN S one k s ++ [one (nxN S k s)]
  | 0, s => rfl
  | k + 1, s => by
    show one s :: oneN S one (k + 1) (nx s S) = _
    rw [oneN_succ S one k]
    rfl
theorem oneN_len {α : Type} (S : Nat) (one : ByteArray → α) : ∀ (k : Nat) (s : ByteArray), (oneN S one k s).length = k
  | 0, s => rfl
  | k + 1, s => by
    show (oneN S one k (nx s S)).length + 1 = _
    rw [oneN_len S one k]
theorem oneN_all {α : Type} {S : Nat} {one : ByteArray → α} {p : α → Prop} (h : ∀ s, p (one s)) : ∀ (k : Nat) (s : ByteArray), ∀ x ∈ oneN S one k s, p x
  | 0, s, x, hx => by cases hx
  | k + 1, s, x, hx => by
    rcases List.mem_cons.1 hx with rfl | hx
    · exact h s
    · exact oneN_all h k _ x hx
/-- what is read of bytes: none where they are wrong -/
def readC {α : Type} [DecidableEq α] (S : Nat) (one : ByteArray → α) (lt : α → α → Bool) (v : ByteArray) : Option (List α) :=
  if v.size = 0 ∨ v.size % S ≠ 0 then none
  else if 64 < (dd (srt lt (oneN S one (v.size / S) v))).length then none
  else some (dd (srt lt (oneN S one (v.size / S) v)))
theorem srt_rise {α : Type} {lt : α → α → Bool} (hS : SWO lt) (l : List α) : ∀ i a b, (srt lt l)[i]? = some a → (srt lt l)[i + 1]? = some b → lt b a = false := by
  have h := List.pairwise_mergeSort (le := fun x y => !lt y x) (by
    intro a b c h1 h2
    simp only [Bool.not_eq_true'] at h1 h2 ⊢
    exact hS.ntrans c b a h2 h1) (by
    intro a b
    cases h : lt b a with
    | false => simp
    | true => simp [hS.asymmA h]) l
  intro i a b ha hb
  rw [List.pairwise_iff_getElem] at h
  obtain ⟨h1, e1⟩ := List.getElem?_eq_some_iff.1 ha
  obtain ⟨h2, e2⟩ := List.getElem?_eq_some_iff.1 hb
  have h3 := h i (i + 1) h1 h2 (Nat.lt_succ_self i)
  subst e1
  subst e2
  simp only [Bool.not_eq_true'] at h3
  exact h3
theorem readC_ok {α : Type} [DecidableEq α] {S : Nat} {one : ByteArray → α} {lt : α → α → Bool} {v : ByteArray} {l : List α} (hS : SWO lt) (ht : ∀ a b, lt b a = false → a = b ∨ lt a b = true) (h : readC S one lt v = some l) : riseB lt l = true ∧ l.length ≤ 64 := by
  unfold readC at h
  split at h
  · cases h
  · split at h
    · cases h
    · injection h with h
      subst h
      exact ⟨dd_rise lt ht _ (srt_rise hS _), by omega⟩
theorem srt_mem {α : Type} {lt : α → α → Bool} {l : List α} {x : α} : x ∈ srt lt l ↔ x ∈ l := List.mem_mergeSort
theorem readC_all {α : Type} [DecidableEq α] {S : Nat} {one : ByteArray → α} {lt : α → α → Bool} {v : ByteArray} {l : List α} {p : α → Prop} (hp : ∀ s, p (one s)) (h : readC S one lt v = some l) : ∀ x ∈ l, p x := by
  unfold readC at h
  split at h
  · cases h
  · split at h
    · cases h
    · injection h with h
      subst h
      exact fun x hx => oneN_all hp _ _ x (srt_mem.1 ((dd_mem _).1 hx))
def lg12 (s : ByteArray) : Lg := ⟨hd s 4, hd (nx s 4) 4, hd (nx s 8) 4⟩
def take8 (v : ByteArray) (c : AtC) : AtC × Bool := match readC 4 (fun s => hd s 4) ltN v with
  | none => ({ c with comms := [] }, false)
  | some l => ({ c with comms := l }, true)
def take16 (v : ByteArray) (c : AtC) : AtC × Bool := match readC 8 (fun s => hd s 8) ltN v with
  | none => ({ c with exts := [] }, false)
  | some l => ({ c with exts := l }, true)
def take32 (v : ByteArray) (c : AtC) : AtC × Bool := match readC 12 lg12 ltL v with
  | none => ({ c with larges := [] }, false)
  | some l => ({ c with larges := l }, true)
/-- what takes each type -/
def tab (n : Nat) (v : ByteArray) (four : Bool) (c : AtC) : AtC × Bool :=
  if n = 1 then take1 v c else
  if n = 2 then take2 v four c else
  if n = 3 then take3 v c else
  if n = 4 then take4 v c else
  if n = 5 then take5 v c else
  if n = 6 then take6 v c else
  if n = 7 then take7 v four c else
  if n = 8 then take8 v c else
  if n = 9 then take9 v c else
  if n = 10 then take10 v c else
  if n = 16 then take16 v c else take32 v c
/-- the types that are known -/
theorem row_known {t : Nat} {b wr : Int} {i : Bool} {f : FuncId} (h : rowF t = some (b, wr, i, f)) : t = 1 ∨ t = 2 ∨ t = 3 ∨ t = 4 ∨ t = 5 ∨ t = 6 ∨ t = 7 ∨ t = 8 ∨ t = 9 ∨ t = 10 ∨ t = 16 ∨ t = 32 := by
  unfold rowF at h
  by_cases h1 : t = 1
  · omega
  by_cases h2 : t = 2
  · omega
  by_cases h3 : t = 3
  · omega
  by_cases h4 : t = 4
  · omega
  by_cases h5 : t = 5
  · omega
  by_cases h6 : t = 6
  · omega
  by_cases h7 : t = 7
  · omega
  by_cases h8 : t = 8
  · omega
  by_cases h9 : t = 9
  · omega
  by_cases h10 : t = 10
  · omega
  by_cases h16 : t = 16
  · omega
  by_cases h32 : t = 32
  · omega
  rw [if_neg h1, if_neg h2, if_neg h3, if_neg h4, if_neg h5, if_neg h6, if_neg h7, if_neg h8, if_neg h9, if_neg h10, if_neg h16, if_neg h32] at h
  cases h
end Go.Proofs.YtkcojblflebomaaGreat
set_option linter.unusedVariables false
set_option linter.unusedSimpArgs false
namespace Go.Proofs.YtkcojblflebomaaGreat
open Go.RowKit Go.MapKept Go.Shelf
open Go.Lib hiding intOf
open Go.Sort hiding Below

/-- what a list read of bytes is answered as -/
def RcPost {α : Type} (base : Nat) (T : TypeId) (C : Nat) (F : α → List Value) : Option (List α) → World → Ending → Prop
  | none, w', e => ∃ n : Int, e = .returned (.tuple #[.slice none 0 0, .int .i64 n]) ∧ (n = 3 ∨ n = 4)
  | some l, w', e => ∃ v, e = .returned (.tuple #[v, .int .i64 0]) ∧ OwnL w' base T C F v l
theorem readC_none {α : Type} [DecidableEq α] {S : Nat} {one : ByteArray → α} {lt : α → α → Bool} {v : ByteArray} (h : v.size = 0 ∨ v.size % S ≠ 0) : readC S one lt v = none := if_pos h
theorem readC_long {α : Type} [DecidableEq α] {S : Nat} {one : ByteArray → α} {lt : α → α → Bool} {v : ByteArray} (h0 : v.size ≠ 0) (h1 : v.size % S = 0) (h : 64 < (dd (srt lt (oneN S one (v.size / S) v))).length) : readC S one lt v = none := by
  unfold readC
  rw [if_neg (by omega), if_pos h]
theorem readC_some {α : Type} [DecidableEq α] {S : Nat} {one : ByteArray → α} {lt : α → α → Bool} {v : ByteArray} (h0 : v.size ≠ 0) (h1 : v.size % S = 0) (h : ¬ 64 < (dd (srt lt (oneN S one (v.size / S) v))).length) : readC S one lt v = some (dd (srt lt (oneN S one (v.size / S) v))) := by
  unfold readC
  rw [if_neg (by omega), if_neg h]
set_option maxRecDepth 100000 in
set_option maxHeartbeats 16000000 in
theorem cread_u32 (s : ByteArray) (w : World) (hm : (s.size : Int) ≤ 140737488351232) :
    Calls Tryz.prog 112 #[.string s, .int .i64 4, .func (.func 57) #[] #[], .func (.func 113) #[] #[]] w fun e w' => RcPost (w.heap.size + 1) 35 1 u1 (readC 4 (fun s => hd s 4) ltN s) w' e ∧ Below w.heap.size w w' := by
  have HNEW := Lib.hid new_any
  have HLE := Lib.hid left_any
  have HON : Hid (∀ (b : Nat) (t : ByteArray) (W : World), RdAt W b t → 4 ≤ t.size → (t.size : Int) ≤ 140737488351232 → Calls Tryz.prog 113 #[.pointer (some ⟨b, 0, none⟩)] W fun e w' => e = .returned (.int .u32 (hd t 4 : Nat)) ∧ RdAt w' b (nx t 4) ∧ W.grownBy w' (some b)) := fun b t W h1 h2 h3 => one4 b t W h1 h2 h3
  have HSO := Lib.hid sort_u32
  have HCU := Lib.hid cut_u32
  obtain ⟨i0, hi, hz0, hz1, hz2⟩ := info_parts infoU32
  have HI := Lib.hid hi
  have HZ0 := Lib.hid hz0
  have HZ1 := Lib.hid hz1
  have HZ2 := Lib.hid hz2
  have z0 := bytes_none s
  obtain ⟨q0, hq0⟩ : ∃ q, q = (s.size == 0) := ⟨_, rfl⟩
  rw [← hq0] at z0
  clear hi hz0 hz1 hz2
  by_cases hb0 : s.size = 0
  · have HT : Hid (readC 4 (fun s => hd s 4) ltN s = none) := readC_none (.inl hb0)
    obtain rfl : q0 = true := by rw [hq0, hb0]; rfl
    clear hq0 hb0
    go_enter Tryz.func112, Tryz.ntmps112
    go_wp2_with fail
    go_ret2
    refine ⟨?_, Below.refl _ _⟩
    rw [HT.out]
    exact ⟨4, rfl, .inr rfl⟩
  obtain rfl : q0 = false := by rw [hq0]; exact beq_eq_false_iff_ne.2 hb0
  clear hq0
  by_cases hb1 : s.size % 4 = 0
  case neg =>
    have HT : Hid (readC 4 (fun s => hd s 4) ltN s = none) := readC_none (.inr hb1)
    have z1 : ((s.size : Int) % 4 != 0) = true := bne_iff_ne.2 (by omega)
    have z1' : ((s.size : Int) % 4 == 0) = false := beq_eq_false_iff_ne.2 (by omega)
    have z2 : ((s.size : Int).tmod 4 != 0) = true := by rw [Int.tmod_eq_emod_of_nonneg (by omega)]; exact z1
    have z2' : ((s.size : Int).tmod 4 == 0) = false := by rw [Int.tmod_eq_emod_of_nonneg (by omega)]; exact z1'
    clear hb1
    go_enter Tryz.func112, Tryz.ntmps112
    go_wp2_with fail
    go_ret2
    refine ⟨?_, Below.refl _ _⟩
    rw [HT.out]
    exact ⟨4, rfl, .inr rfl⟩
  have z1 : ((s.size : Int) % 4 != 0) = false := by
    have : (s.size : Int) % 4 = 0 := by omega
    rw [this]
    rfl
  have z1' : ((s.size : Int) % 4 == 0) = true := beq_iff_eq.2 (by omega)
  have z2 : ((s.size : Int).tmod 4 != 0) = false := by rw [Int.tmod_eq_emod_of_nonneg (by omega)]; exact z1
  have z2' : ((s.size : Int).tmod 4 == 0) = true := by rw [Int.tmod_eq_emod_of_nonneg (by omega)]; exact z1'
  have HB0 := Lib.hid hb0
  have HB1 := Lib.hid hb1
  have HTL : Hid (64 < (dd (srt ltN (oneN 4 (fun s => hd s 4) (s.size / 4) s))).length → readC 4 (fun s => hd s 4) ltN s = none) := fun h => readC_long hb0 hb1 h
  have HTS : Hid (¬ 64 < (dd (srt ltN (oneN 4 (fun s => hd s 4) (s.size / 4) s))).length → readC 4 (fun s => hd s 4) ltN s = some (dd (srt ltN (oneN 4 (fun s => hd s 4) (s.size / 4) s)))) := fun h => readC_some hb0 hb1 h
  generalize readC 4 (fun s => hd s 4) ltN s = RES at HTL HTS ⊢
  clear hb1 hb0
  go_enter Tryz.func112, Tryz.ntmps112
  go_wp2_with fail
  refine (HNEW.out s w).mono ?_
  rintro e w1 ⟨rfl, hw1⟩
  have HR1 : Hid (RdAt w1 w.heap.size s) := by
    show RdAt _ _ _
    rw [hw1]
    exact heap_alloc_new w _
  have HBL1 : Hid (Below w.heap.size w w1) := by
    rw [hw1]
    exact (Below.refl _ _).alloc (Nat.le_refl _) _
  clear hw1
  go_wp2_with fail
  go_loopw [11] (fun ov wr => ∃ (k : Nat) (A : Option Addr) (cK : Nat), ov = .slice A k cK ∧ k * 4 ≤ s.size ∧ Hid (RdAt wr w.heap.size (nxN 4 k s)) ∧ Hid (OwnL wr (w.heap.size + 1) 35 1 u1 (.slice A k cK) (oneN 4 (fun s => hd s 4) k s)) ∧ Hid (Below w.heap.size w wr)) (fun _x wr => mRd wr w.heap.size)
  case atStart => exact ⟨0, none, 0, rfl, by omega, HR1.out, OwnL.nil _ _ _ _ _, HBL1.out⟩
  case round =>
    clear HR1 HBL1
    obtain ⟨k, A, cK, rfl, hk, HR, HOW, HBB⟩ := hrel
    have hrl := HR.out.lt
    have hts : (nxN 4 k s).size = s.size - k * 4 := nxN_size 4 k s
    have HNX := Lib.hid (nxN_succ 4 k s)
    have HAS := Lib.hid (oneN_succ 4 (fun s => hd s 4) k s)
    have HMR := Lib.hid (mRd_at HR.out)
    obtain ⟨t, ht⟩ : ∃ t, t = nxN 4 k s := ⟨_, rfl⟩
    rw [← ht] at HR hts HNX HAS HMR
    clear ht
    go_wp2_with fail
    refine (HLE.out w.heap.size t _ HR.out).mono ?_
    rintro e w2 ⟨rfl, rfl⟩
    by_cases hlt : k * 4 < s.size
    · have h4 : 4 ≤ t.size := by have := HB1.out; omega
      have h0 : (4 : Int) ≤ (t.size : Int) := by omega
      go_wp2_with fail
      refine (HON.out w.heap.size t _ HR.out h4 (by omega)).mono ?_
      rintro e w3 ⟨rfl, hr3, hg3⟩
      have HR3 : Hid (RdAt w3 w.heap.size (nx t 4)) := hr3
      have HOW3 : Hid (OwnL w3 (w.heap.size + 1) 35 1 u1 (.slice A k cK) (oneN 4 (fun s => hd s 4) k s)) := HOW.out.off hg3 (show CellsAt w2 w.heap.size #[.bool true, .string t] 110 from HR.out) (by decide)
      have HBB3 : Hid (Below w.heap.size w w3) := HBB.out.grown hg3 (by have := HBB.out.size; omega) (fun q hq => by cases hq; exact Nat.le_refl _)
      have hrl3 : w.heap.size < w3.heap.size := Nat.lt_of_lt_of_le hrl hg3.size
      have HSZ : Hid ((nx t 4).size = t.size - 4) := nx_size t 4
      have HMEAS : Hid (mRd w2 w.heap.size = t.size) := HMR.out
      obtain ⟨x, hx⟩ : ∃ x, x = hd t 4 := ⟨_, rfl⟩
      rw [← hx] at HAS ⊢
      clear hr3 hg3 hx HR HOW HBB HMR
      have HCB : Hid (CellsAt (w3.alloc (.cells #[.int .u32 (x : Nat)] 35)) w3.heap.size #[.int .u32 (x : Nat)] 35) := CellsAt.new _ _ _
      have HS := Lib.hid (Src.block (P := Tryz.prog) (t2 := 36) (size := 1) (m := 1) (c := 1) Tryz.underlying36 HCB.out rfl (by simp [Value.oneCell']))
      have HOa := Lib.hid (HOW3.out.alloc (.cells #[.int .u32 (x : Nat)] 35))
      have HBS : Hid (w.heap.size + 1 ≤ (w3.alloc (.cells #[.int .u32 (x : Nat)] 35)).heap.size) := by show _ ≤ _; simp; omega
      have HM : Hid (k + 1 ≤ maxLen) := by show _ ≤ _; unfold maxLen; omega
      have HY : Hid ((k + 1) * 4 ≤ 140737488355328) := by show _ ≤ _; omega
      have HOB : Hid (OwnM (w3.alloc (.cells #[.int .u32 (x : Nat)] 35)) (w.heap.size + 1) 35 1 (.slice A k cK) k ((oneN 4 (fun s => hd s 4) k s).flatMap u1)) := by
        have h := HOa.out
        unfold OwnL at h
        rwa [oneN_len] at h
      have HRa : Hid (RdAt (w3.alloc (.cells #[.int .u32 (x : Nat)] 35)) w.heap.size (nx t 4)) := (Below.heap_alloc _ _ _ HR3.out.lt).trans HR3.out
      have HBa : Hid (Below w.heap.size w (w3.alloc (.cells #[.int .u32 (x : Nat)] 35))) := HBB3.out.alloc (by omega) _
      go_wp2_with (at_builtin; refine wpList_append_m rfl (.tmp 27) (.tmp 31) 36 36 rfl (w.heap.size + 1) 35 i0 _ 1 4 Tryz.underlying36 HI.out HZ0.out HZ1.out HZ2.out rfl (by decide) (.slice A k cK) k ((oneN 4 (fun s => hd s 4) k s).flatMap u1) rfl HOB.out _ 1 _ rfl HS.out HM.out HY.out HBS.out ?_)
      intro v' w5 hown hgr hat
      obtain ⟨A6, c6, rfl⟩ := hown.form
      have hob : ∀ q, (Value.slice A k cK).ownBlock = some q → w.heap.size + 1 ≤ q := fun q hq => (OwnM.lt HOB.out q hq).1
      have HN5 : Hid (OwnL w5 (w.heap.size + 1) 35 1 u1 (.slice A6 (k + 1) c6) (oneN 4 (fun s => hd s 4) (k + 1) s)) := by
        show OwnL _ _ _ _ _ _ _
        rw [HAS.out]
        refine OwnL.snoc ?_
        rw [oneN_len]
        exact hown
      have HR5 : Hid (RdAt w5 w.heap.size (nxN 4 (k + 1) s)) := by
        show RdAt _ _ _
        rw [HNX.out]
        exact (hgr.block _ HRa.out.lt (fun e => by have := hob _ e.symm; omega)).trans HRa.out
      have HBB5 : Hid (Below w.heap.size w w5) := HBa.out.grown hgr (by simp; omega) (fun q hq => by have := hob _ hq; omega)
      clear hown hgr hat hob HOB HOa HRa HBa
      go_wp2_with fail
      refine ⟨⟨k + 1, A6, c6, rfl, by omega, HR5.out, HN5.out, HBB5.out⟩, ?_⟩
      show mRd _ _ < mRd _ _
      rw [mRd_at HR5.out, HMEAS.out, HNX.out, HSZ.out]
      omega
    · have hke : s.size / 4 = k := by have := HB1.out; omega
      have ht0 : ¬ (4 : Int) ≤ (t.size : Int) := by omega
      have HOWk := HOW
      rw [← hke] at HOWk
      have HKS : Hid (k ≤ 140737488351232) := by show k ≤ _; omega
      have HL1 : Hid ((srt ltN (oneN 4 (fun s => hd s 4) (s.size / 4) s)).length = k) := by show _ = _; rw [srt_len, oneN_len, hke]
      have HLD : Hid ((dd (srt ltN (oneN 4 (fun s => hd s 4) (s.size / 4) s))).length ≤ k) := by have := dd_len (srt ltN (oneN 4 (fun s => hd s 4) (s.size / 4) s)); have h2 := HL1.out; show _ ≤ _; omega
      have HOL : Hid (∃ L, L = oneN 4 (fun s => hd s 4) (s.size / 4) s ∧ L.length = k ∧ OwnL w2 (w.heap.size + 1) 35 1 u1 (.slice A k cK) L) := ⟨_, rfl, by rw [oneN_len]; exact hke, by rw [hke]; exact HOW.out⟩
      clear HOWk HOW hke HAS HNX HMR HR
      obtain ⟨L, hLe, hLk, hLo⟩ := HOL.out
      rw [← hLe] at HTL HTS HL1 HLD
      have HLO := Lib.hid hLo
      have HLK := Lib.hid hLk
      clear hLe hLk hLo HOL
      go_wp2_with fail
      refine (HSO.out _ (w.heap.size + 1) (.slice A k cK) L HLO.out (by rw [HLK.out]; have := HKS.out; omega)).mono ?_
      rintro e w6 ⟨rfl, ho6, hg6⟩
      have HO6 := Lib.hid ho6
      have HB6 : Hid (Below w.heap.size w w6) := OwnM.below_grown HLO.out hg6 HBB.out (by have := HBB.out.size; exact this) (by omega)
      clear ho6 hg6 HBB HLO
      go_wp2_with fail
      refine (HCU.out _ (w.heap.size + 1) (.slice A k cK) (srt ltN L) HO6.out (by rw [HL1.out]; have := HKS.out; omega)).mono ?_
      rintro e w7 ⟨v7, rfl, ho7, hg7, hv7⟩
      have HB7 : Hid (Below w.heap.size w w7) := OwnM.below_grown HO6.out hg7 HB6.out (by have := HB6.out.size; exact this) (by omega)
      obtain ⟨A7, c7, rfl⟩ := ho7.form
      have HO7 := Lib.hid ho7
      clear ho7 hg7 hv7 HB6 HO6
      by_cases h64 : 64 < (dd (srt ltN L)).length
      · have HRN := Lib.hid (HTL.out h64)
        obtain ⟨m, hmm⟩ : ∃ m, m = (dd (srt ltN L)).length := ⟨_, rfl⟩
        rw [← hmm] at h64 ⊢
        have h64' : (64 : Int) < (m : Int) := by omega
        clear HTL HTS HLD HO7 hmm
        go_wp2_with fail
        go_ret2
        refine ⟨?_, HB7.out⟩
        rw [HRN.out]
        exact ⟨3, rfl, .inl rfl⟩
      · have HRN := Lib.hid (HTS.out h64)
        have HOF : Hid (RES = some (dd (srt ltN L)) ∧ OwnL w7 (w.heap.size + 1) 35 1 u1 (.slice A7 (dd (srt ltN L)).length c7) (dd (srt ltN L))) := ⟨HRN.out, HO7.out⟩
        clear HTL HTS HLD HRN HO7
        generalize dd (srt ltN L) = D at h64 HOF ⊢
        obtain ⟨m, hmm⟩ : ∃ m, m = D.length := ⟨_, rfl⟩
        rw [← hmm] at h64 HOF ⊢
        have h64' : ¬ (64 : Int) < (m : Int) := by omega
        clear hmm
        go_wp2_with fail
        go_ret2
        refine ⟨?_, HB7.out⟩
        rw [HOF.out.1]
        exact ⟨_, rfl, HOF.out.2⟩
set_option maxRecDepth 100000 in
set_option maxHeartbeats 16000000 in
theorem cread_u64 (s : ByteArray) (w : World) (hm : (s.size : Int) ≤ 140737488351232) :
    Calls Tryz.prog 114 #[.string s, .int .i64 8, .func (.func 59) #[] #[], .func (.func 115) #[] #[]] w fun e w' => RcPost (w.heap.size + 1) 57 1 x1 (readC 8 (fun s => hd s 8) ltN s) w' e ∧ Below w.heap.size w w' := by
  have HNEW := Lib.hid new_any
  have HLE := Lib.hid left_any
  have HON : Hid (∀ (b : Nat) (t : ByteArray) (W : World), RdAt W b t → 8 ≤ t.size → (t.size : Int) ≤ 140737488351232 → Calls Tryz.prog 115 #[.pointer (some ⟨b, 0, none⟩)] W fun e w' => e = .returned (.int .u64 (hd t 8 : Nat)) ∧ RdAt w' b (nx t 8) ∧ W.grownBy w' (some b)) := fun b t W h1 h2 h3 => one8 b t W h1 h2 h3
  have HSO := Lib.hid sort_u64
  have HCU := Lib.hid cut_u64
  obtain ⟨i0, hi, hz0, hz1, hz2⟩ := info_parts infoU64
  have HI := Lib.hid hi
  have HZ0 := Lib.hid hz0
  have HZ1 := Lib.hid hz1
  have HZ2 := Lib.hid hz2
  have z0 := bytes_none s
  obtain ⟨q0, hq0⟩ : ∃ q, q = (s.size == 0) := ⟨_, rfl⟩
  rw [← hq0] at z0
  clear hi hz0 hz1 hz2
  by_cases hb0 : s.size = 0
  · have HT : Hid (readC 8 (fun s => hd s 8) ltN s = none) := readC_none (.inl hb0)
    obtain rfl : q0 = true := by rw [hq0, hb0]; rfl
    clear hq0 hb0
    go_enter Tryz.func114, Tryz.ntmps114
    go_wp2_with fail
    go_ret2
    refine ⟨?_, Below.refl _ _⟩
    rw [HT.out]
    exact ⟨4, rfl, .inr rfl⟩
  obtain rfl : q0 = false := by rw [hq0]; exact beq_eq_false_iff_ne.2 hb0
  clear hq0
  by_cases hb1 : s.size % 8 = 0
  case neg =>
    have HT : Hid (readC 8 (fun s => hd s 8) ltN s = none) := readC_none (.inr hb1)
    have z1 : ((s.size : Int) % 8 != 0) = true := bne_iff_ne.2 (by omega)
    have z1' : ((s.size : Int) % 8 == 0) = false := beq_eq_false_iff_ne.2 (by omega)
    have z2 : ((s.size : Int).tmod 8 != 0) = true := by rw [Int.tmod_eq_emod_of_nonneg (by omega)]; exact z1
    have z2' : ((s.size : Int).tmod 8 == 0) = false := by rw [Int.tmod_eq_emod_of_nonneg (by omega)]; exact z1'
    clear hb1
    go_enter Tryz.func114, Tryz.ntmps114
    go_wp2_with fail
    go_ret2
    refine ⟨?_, Below.refl _ _⟩
    rw [HT.out]
    exact ⟨4, rfl, .inr rfl⟩
  have z1 : ((s.size : Int) % 8 != 0) = false := by
    have : (s.size : Int) % 8 = 0 := by omega
    rw [this]
    rfl
  have z1' : ((s.size : Int) % 8 == 0) = true := beq_iff_eq.2 (by omega)
  have z2 : ((s.size : Int).tmod 8 != 0) = false := by rw [Int.tmod_eq_emod_of_nonneg (by omega)]; exact z1
  have z2' : ((s.size : Int).tmod 8 == 0) = true := by rw [Int.tmod_eq_emod_of_nonneg (by omega)]; exact z1'
  have HB0 := Lib.hid hb0
  have HB1 := Lib.hid hb1
  have HTL : Hid (64 < (dd (srt ltN (oneN 8 (fun s => hd s 8) (s.size / 8) s))).length → readC 8 (fun s => hd s 8) ltN s = none) := fun h => readC_long hb0 hb1 h
  have HTS : Hid (¬ 64 < (dd (srt ltN (oneN 8 (fun s => hd s 8) (s.size / 8) s))).length → readC 8 (fun s => hd s 8) ltN s = some (dd (srt ltN (oneN 8 (fun s => hd s 8) (s.size / 8) s)))) := fun h => readC_some hb0 hb1 h
  generalize readC 8 (fun s => hd s 8) ltN s = RES at HTL HTS ⊢
  clear hb1 hb0
  go_enter Tryz.func114, Tryz.ntmps114
  go_wp2_with fail
  refine (HNEW.out s w).mono ?_
  rintro e w1 ⟨rfl, hw1⟩
  have HR1 : Hid (RdAt w1 w.heap.size s) := by
    show RdAt _ _ _
    rw [hw1]
    exact heap_alloc_new w _
  have HBL1 : Hid (Below w.heap.size w w1) := by
    rw [hw1]
    exact (Below.refl _ _).alloc (Nat.le_refl _) _
  clear hw1
  go_wp2_with fail
  go_loopw [11] (fun ov wr => ∃ (k : Nat) (A : Option Addr) (cK : Nat), ov = .slice A k cK ∧ k * 8 ≤ s.size ∧ Hid (RdAt wr w.heap.size (nxN 8 k s)) ∧ Hid (OwnL wr (w.heap.size + 1) 57 1 x1 (.slice A k cK) (oneN 8 (fun s => hd s 8) k s)) ∧ Hid (Below w.heap.size w wr)) (fun _x wr => mRd wr w.heap.size)
  case atStart => exact ⟨0, none, 0, rfl, by omega, HR1.out, OwnL.nil _ _ _ _ _, HBL1.out⟩
  case round =>
    clear HR1 HBL1
    obtain ⟨k, A, cK, rfl, hk, HR, HOW, HBB⟩ := hrel
    have hrl := HR.out.lt
    have hts : (nxN 8 k s).size = s.size - k * 8 := nxN_size 8 k s
    have HNX := Lib.hid (nxN_succ 8 k s)
    have HAS := Lib.hid (oneN_succ 8 (fun s => hd s 8) k s)
    have HMR := Lib.hid (mRd_at HR.out)
    obtain ⟨t, ht⟩ : ∃ t, t = nxN 8 k s := ⟨_, rfl⟩
    rw [← ht] at HR hts HNX HAS HMR
    clear ht
    go_wp2_with fail
    refine (HLE.out w.heap.size t _ HR.out).mono ?_
    rintro e w2 ⟨rfl, rfl⟩
    by_cases hlt : k * 8 < s.size
    · have h4 : 8 ≤ t.size := by have := HB1.out; omega
      have h0 : (8 : Int) ≤ (t.size : Int) := by omega
      go_wp2_with fail
      refine (HON.out w.heap.size t _ HR.out h4 (by omega)).mono ?_
      rintro e w3 ⟨rfl, hr3, hg3⟩
      have HR3 : Hid (RdAt w3 w.heap.size (nx t 8)) := hr3
      have HOW3 : Hid (OwnL w3 (w.heap.size + 1) 57 1 x1 (.slice A k cK) (oneN 8 (fun s => hd s 8) k s)) := HOW.out.off hg3 (show CellsAt w2 w.heap.size #[.bool true, .string t] 110 from HR.out) (by decide)
      have HBB3 : Hid (Below w.heap.size w w3) := HBB.out.grown hg3 (by have := HBB.out.size; omega) (fun q hq => by cases hq; exact Nat.le_refl _)
      have hrl3 : w.heap.size < w3.heap.size := Nat.lt_of_lt_of_le hrl hg3.size
      have HSZ : Hid ((nx t 8).size = t.size - 8) := nx_size t 8
      have HMEAS : Hid (mRd w2 w.heap.size = t.size) := HMR.out
      obtain ⟨x, hx⟩ : ∃ x, x = hd t 8 := ⟨_, rfl⟩
      rw [← hx] at HAS ⊢
      clear hr3 hg3 hx HR HOW HBB HMR
      have HCB : Hid (CellsAt (w3.alloc (.cells #[.int .u64 (x : Nat)] 57)) w3.heap.size #[.int .u64 (x : Nat)] 57) := CellsAt.new _ _ _
      have HS := Lib.hid (Src.block (P := Tryz.prog) (t2 := 37) (size := 1) (m := 1) (c := 1) Tryz.underlying37 HCB.out rfl (by simp [Value.oneCell']))
      have HOa := Lib.hid (HOW3.out.alloc (.cells #[.int .u64 (x : Nat)] 57))
      have HBS : Hid (w.heap.size + 1 ≤ (w3.alloc (.cells #[.int .u64 (x : Nat)] 57)).heap.size) := by show _ ≤ _; simp; omega
      have HM : Hid (k + 1 ≤ maxLen) := by show _ ≤ _; unfold maxLen; omega
      have HY : Hid ((k + 1) * 8 ≤ 140737488355328) := by show _ ≤ _; omega
      have HOB : Hid (OwnM (w3.alloc (.cells #[.int .u64 (x : Nat)] 57)) (w.heap.size + 1) 57 1 (.slice A k cK) k ((oneN 8 (fun s => hd s 8) k s).flatMap x1)) := by
        have h := HOa.out
        unfold OwnL at h
        rwa [oneN_len] at h
      have HRa : Hid (RdAt (w3.alloc (.cells #[.int .u64 (x : Nat)] 57)) w.heap.size (nx t 8)) := (Below.heap_alloc _ _ _ HR3.out.lt).trans HR3.out
      have HBa : Hid (Below w.heap.size w (w3.alloc (.cells #[.int .u64 (x : Nat)] 57))) := HBB3.out.alloc (by omega) _
      go_wp2_with (at_builtin; refine wpList_append_m rfl (.tmp 27) (.tmp 31) 37 37 rfl (w.heap.size + 1) 57 i0 _ 1 8 Tryz.underlying37 HI.out HZ0.out HZ1.out HZ2.out rfl (by decide) (.slice A k cK) k ((oneN 8 (fun s => hd s 8) k s).flatMap x1) rfl HOB.out _ 1 _ rfl HS.out HM.out HY.out HBS.out ?_)
      intro v' w5 hown hgr hat
      obtain ⟨A6, c6, rfl⟩ := hown.form
      have hob : ∀ q, (Value.slice A k cK).ownBlock = some q → w.heap.size + 1 ≤ q := fun q hq => (OwnM.lt HOB.out q hq).1
      have HN5 : Hid (OwnL w5 (w.heap.size + 1) 57 1 x1 (.slice A6 (k + 1) c6) (oneN 8 (fun s => hd s 8) (k + 1) s)) := by
        show OwnL _ _ _ _ _ _ _
        rw [HAS.out]
        refine OwnL.snoc ?_
        rw [oneN_len]
        exact hown
      have HR5 : Hid (RdAt w5 w.heap.size (nxN 8 (k + 1) s)) := by
        show RdAt _ _ _
        rw [HNX.out]
        exact (hgr.block _ HRa.out.lt (fun e => by have := hob _ e.symm; omega)).trans HRa.out
      have HBB5 : Hid (Below w.heap.size w w5) := HBa.out.grown hgr (by simp; omega) (fun q hq => by have := hob _ hq; omega)
      clear hown hgr hat hob HOB HOa HRa HBa
      go_wp2_with fail
      refine ⟨⟨k + 1, A6, c6, rfl, by omega, HR5.out, HN5.out, HBB5.out⟩, ?_⟩
      show mRd _ _ < mRd _ _
      rw [mRd_at HR5.out, HMEAS.out, HNX.out, HSZ.out]
      omega
    · have hke : s.size / 8 = k := by have := HB1.out; omega
      have ht0 : ¬ (8 : Int) ≤ (t.size : Int) := by omega
      have HOWk := HOW
      rw [← hke] at HOWk
      have HKS : Hid (k ≤ 140737488351232) := by show k ≤ _; omega
      have HL1 : Hid ((srt ltN (oneN 8 (fun s => hd s 8) (s.size / 8) s)).length = k) := by show _ = _; rw [srt_len, oneN_len, hke]
      have HLD : Hid ((dd (srt ltN (oneN 8 (fun s => hd s 8) (s.size / 8) s))).length ≤ k) := by have := dd_len (srt ltN (oneN 8 (fun s => hd s 8) (s.size / 8) s)); have h2 := HL1.out; show _ ≤ _; omega
      have HOL : Hid (∃ L, L = oneN 8 (fun s => hd s 8) (s.size / 8) s ∧ L.length = k ∧ OwnL w2 (w.heap.size + 1) 57 1 x1 (.slice A k cK) L) := ⟨_, rfl, by rw [oneN_len]; exact hke, by rw [hke]; exact HOW.out⟩
      clear HOWk HOW hke HAS HNX HMR HR
      obtain ⟨L, hLe, hLk, hLo⟩ := HOL.out
      rw [← hLe] at HTL HTS HL1 HLD
      have HLO := Lib.hid hLo
      have HLK := Lib.hid hLk
      clear hLe hLk hLo HOL
      go_wp2_with fail
      refine (HSO.out _ (w.heap.size + 1) (.slice A k cK) L HLO.out (by rw [HLK.out]; have := HKS.out; omega)).mono ?_
      rintro e w6 ⟨rfl, ho6, hg6⟩
      have HO6 := Lib.hid ho6
      have HB6 : Hid (Below w.heap.size w w6) := OwnM.below_grown HLO.out hg6 HBB.out (by have := HBB.out.size; exact this) (by omega)
      clear ho6 hg6 HBB HLO
      go_wp2_with fail
      refine (HCU.out _ (w.heap.size + 1) (.slice A k cK) (srt ltN L) HO6.out (by rw [HL1.out]; have := HKS.out; omega)).mono ?_
      rintro e w7 ⟨v7, rfl, ho7, hg7, hv7⟩
      have HB7 : Hid (Below w.heap.size w w7) := OwnM.below_grown HO6.out hg7 HB6.out (by have := HB6.out.size; exact this) (by omega)
      obtain ⟨A7, c7, rfl⟩ := ho7.form
      have HO7 := Lib.hid ho7
      clear ho7 hg7 hv7 HB6 HO6
      by_cases h64 : 64 < (dd (srt ltN L)).length
      · have HRN := Lib.hid (HTL.out h64)
        obtain ⟨m, hmm⟩ : ∃ m, m = (dd (srt ltN L)).length := ⟨_, rfl⟩
        rw [← hmm] at h64 ⊢
        have h64' : (64 : Int) < (m : Int) := by omega
        clear HTL HTS HLD HO7 hmm
        go_wp2_with fail
        go_ret2
        refine ⟨?_, HB7.out⟩
        rw [HRN.out]
        exact ⟨3, rfl, .inl rfl⟩
      · have HRN := Lib.hid (HTS.out h64)
        have HOF : Hid (RES = some (dd (srt ltN L)) ∧ OwnL w7 (w.heap.size + 1) 57 1 x1 (.slice A7 (dd (srt ltN L)).length c7) (dd (srt ltN L))) := ⟨HRN.out, HO7.out⟩
        clear HTL HTS HLD HRN HO7
        generalize dd (srt ltN L) = D at h64 HOF ⊢
        obtain ⟨m, hmm⟩ : ∃ m, m = D.length := ⟨_, rfl⟩
        rw [← hmm] at h64 HOF ⊢
        have h64' : ¬ (64 : Int) < (m : Int) := by omega
        clear hmm
        go_wp2_with fail
        go_ret2
        refine ⟨?_, HB7.out⟩
        rw [HOF.out.1]
        exact ⟨_, rfl, HOF.out.2⟩
set_option maxRecDepth 100000 in
set_option maxHeartbeats 16000000 in
theorem cread_L (s : ByteArray) (w : World) (hm : (s.size : Int) ≤ 140737488351232) :
    Calls Tryz.prog 116 #[.string s, .int .i64 12, .func (.func 104) #[] #[], .func (.func 117) #[] #[]] w fun e w' => RcPost (w.heap.size + 1) 59 3 Lg.cs (readC 12 lg12 ltL s) w' e ∧ Below w.heap.size w w' := by
  have HNEW := Lib.hid new_any
  have HLE := Lib.hid left_any
  have HON : Hid (∀ (b : Nat) (t : ByteArray) (W : World), RdAt W b t → 12 ≤ t.size → (t.size : Int) ≤ 140737488351232 → Calls Tryz.prog 117 #[.pointer (some ⟨b, 0, none⟩)] W fun e w' => e = .returned (.agg #[.int .u32 ((lg12 t).g : Nat), .int .u32 ((lg12 t).a : Nat), .int .u32 ((lg12 t).b : Nat)]) ∧ RdAt w' b (nx t 12) ∧ W.grownBy w' (some b)) := fun b t W h1 h2 h3 => one12 b t W h1 h2 h3
  have HSO := Lib.hid sort_L
  have HCU := Lib.hid cut_L
  obtain ⟨i0, hi, hz0, hz1, hz2⟩ := info_parts infoLg
  have HI := Lib.hid hi
  have HZ0 := Lib.hid hz0
  have HZ1 := Lib.hid hz1
  have HZ2 := Lib.hid hz2
  have z0 := bytes_none s
  obtain ⟨q0, hq0⟩ : ∃ q, q = (s.size == 0) := ⟨_, rfl⟩
  rw [← hq0] at z0
  clear hi hz0 hz1 hz2
  by_cases hb0 : s.size = 0
  · have HT : Hid (readC 12 lg12 ltL s = none) := readC_none (.inl hb0)
    obtain rfl : q0 = true := by rw [hq0, hb0]; rfl
    clear hq0 hb0
    go_enter Tryz.func116, Tryz.ntmps116
    go_wp2_with fail
    go_ret2
    refine ⟨?_, Below.refl _ _⟩
    rw [HT.out]
    exact ⟨4, rfl, .inr rfl⟩
  obtain rfl : q0 = false := by rw [hq0]; exact beq_eq_false_iff_ne.2 hb0
  clear hq0
  by_cases hb1 : s.size % 12 = 0
  case neg =>
    have HT : Hid (readC 12 lg12 ltL s = none) := readC_none (.inr hb1)
    have z1 : ((s.size : Int) % 12 != 0) = true := bne_iff_ne.2 (by omega)
    have z1' : ((s.size : Int) % 12 == 0) = false := beq_eq_false_iff_ne.2 (by omega)
    have z2 : ((s.size : Int).tmod 12 != 0) = true := by rw [Int.tmod_eq_emod_of_nonneg (by omega)]; exact z1
    have z2' : ((s.size : Int).tmod 12 == 0) = false := by rw [Int.tmod_eq_emod_of_nonneg (by omega)]; exact z1'
    clear hb1
    go_enter Tryz.func116, Tryz.ntmps116
    go_wp2_with fail
    go_ret2
    refine ⟨?_, Below.refl _ _⟩
    rw [HT.out]
    exact ⟨4, rfl, .inr rfl⟩
  have z1 : ((s.size : Int) % 12 != 0) = false := by
    have : (s.size : Int) % 12 = 0 := by omega
    rw [this]
    rfl
  have z1' : ((s.size : Int) % 12 == 0) = true := beq_iff_eq.2 (by omega)
  have z2 : ((s.size : Int).tmod 12 != 0) = false := by rw [Int.tmod_eq_emod_of_nonneg (by omega)]; exact z1
  have z2' : ((s.size : Int).tmod 12 == 0) = true := by rw [Int.tmod_eq_emod_of_nonneg (by omega)]; exact z1'
  have HB0 := Lib.hid hb0
  have HB1 := Lib.hid hb1
  have HTL : Hid (64 < (dd (srt ltL (oneN 12 lg12 (s.size / 12) s))).length → readC 12 lg12 ltL s = none) := fun h => readC_long hb0 hb1 h
  have HTS : Hid (¬ 64 < (dd (srt ltL (oneN 12 lg12 (s.size / 12) s))).length → readC 12 lg12 ltL s = some (dd (srt ltL (oneN 12 lg12 (s.size / 12) s)))) := fun h => readC_some hb0 hb1 h
  generalize readC 12 lg12 ltL s = RES at HTL HTS ⊢
  clear hb1 hb0
  go_enter Tryz.func116, Tryz.ntmps116
  go_wp2_with fail
  refine (HNEW.out s w).mono ?_
  rintro e w1 ⟨rfl, hw1⟩
  have HR1 : Hid (RdAt w1 w.heap.size s) := by
    show RdAt _ _ _
    rw [hw1]
    exact heap_alloc_new w _
  have HBL1 : Hid (Below w.heap.size w w1) := by
    rw [hw1]
    exact (Below.refl _ _).alloc (Nat.le_refl _) _
  clear hw1
  go_wp2_with fail
  go_loopw [11] (fun ov wr => ∃ (k : Nat) (A : Option Addr) (cK : Nat), ov = .slice A k cK ∧ k * 12 ≤ s.size ∧ Hid (RdAt wr w.heap.size (nxN 12 k s)) ∧ Hid (OwnL wr (w.heap.size + 1) 59 3 Lg.cs (.slice A k cK) (oneN 12 lg12 k s)) ∧ Hid (Below w.heap.size w wr)) (fun _x wr => mRd wr w.heap.size)
  case atStart => exact ⟨0, none, 0, rfl, by omega, HR1.out, OwnL.nil _ _ _ _ _, HBL1.out⟩
  case round =>
    clear HR1 HBL1
    obtain ⟨k, A, cK, rfl, hk, HR, HOW, HBB⟩ := hrel
    have hrl := HR.out.lt
    have hts : (nxN 12 k s).size = s.size - k * 12 := nxN_size 12 k s
    have HNX := Lib.hid (nxN_succ 12 k s)
    have HAS := Lib.hid (oneN_succ 12 lg12 k s)
    have HMR := Lib.hid (mRd_at HR.out)
    obtain ⟨t, ht⟩ : ∃ t, t = nxN 12 k s := ⟨_, rfl⟩
    rw [← ht] at HR hts HNX HAS HMR
    clear ht
    go_wp2_with fail
    refine (HLE.out w.heap.size t _ HR.out).mono ?_
    rintro e w2 ⟨rfl, rfl⟩
    by_cases hlt : k * 12 < s.size
    · have h4 : 12 ≤ t.size := by have := HB1.out; omega
      have h0 : (12 : Int) ≤ (t.size : Int) := by omega
      go_wp2_with fail
      refine (HON.out w.heap.size t _ HR.out h4 (by omega)).mono ?_
      rintro e w3 ⟨rfl, hr3, hg3⟩
      have HR3 : Hid (RdAt w3 w.heap.size (nx t 12)) := hr3
      have HOW3 : Hid (OwnL w3 (w.heap.size + 1) 59 3 Lg.cs (.slice A k cK) (oneN 12 lg12 k s)) := HOW.out.off hg3 (show CellsAt w2 w.heap.size #[.bool true, .string t] 110 from HR.out) (by decide)
      have HBB3 : Hid (Below w.heap.size w w3) := HBB.out.grown hg3 (by have := HBB.out.size; omega) (fun q hq => by cases hq; exact Nat.le_refl _)
      have hrl3 : w.heap.size < w3.heap.size := Nat.lt_of_lt_of_le hrl hg3.size
      have HSZ : Hid ((nx t 12).size = t.size - 12) := nx_size t 12
      have HMEAS : Hid (mRd w2 w.heap.size = t.size) := HMR.out
      obtain ⟨x, hx⟩ : ∃ x, x = lg12 t := ⟨_, rfl⟩
      rw [← hx] at HAS ⊢
      clear hr3 hg3 hx HR HOW HBB HMR
      have HCB : Hid (CellsAt (w3.alloc (.cells #[.int .u32 (x.g : Nat), .int .u32 (x.a : Nat), .int .u32 (x.b : Nat)] 59)) w3.heap.size #[.int .u32 (x.g : Nat), .int .u32 (x.a : Nat), .int .u32 (x.b : Nat)] 59) := CellsAt.new _ _ _
      have HS := Lib.hid (Src.block (P := Tryz.prog) (t2 := 38) (size := 3) (m := 1) (c := 1) Tryz.underlying38 HCB.out rfl (by simp [Value.oneCell']))
      have HOa := Lib.hid (HOW3.out.alloc (.cells #[.int .u32 (x.g : Nat), .int .u32 (x.a : Nat), .int .u32 (x.b : Nat)] 59))
      have HBS : Hid (w.heap.size + 1 ≤ (w3.alloc (.cells #[.int .u32 (x.g : Nat), .int .u32 (x.a : Nat), .int .u32 (x.b : Nat)] 59)).heap.size) := by show _ ≤ _; simp; omega
      have HM : Hid (k + 1 ≤ maxLen) := by show _ ≤ _; unfold maxLen; omega
      have HY : Hid ((k + 1) * 12 ≤ 140737488355328) := by show _ ≤ _; omega
      have HOB : Hid (OwnM (w3.alloc (.cells #[.int .u32 (x.g : Nat), .int .u32 (x.a : Nat), .int .u32 (x.b : Nat)] 59)) (w.heap.size + 1) 59 3 (.slice A k cK) k ((oneN 12 lg12 k s).flatMap Lg.cs)) := by
        have h := HOa.out
        unfold OwnL at h
        rwa [oneN_len] at h
      have HRa : Hid (RdAt (w3.alloc (.cells #[.int .u32 (x.g : Nat), .int .u32 (x.a : Nat), .int .u32 (x.b : Nat)] 59)) w.heap.size (nx t 12)) := (Below.heap_alloc _ _ _ HR3.out.lt).trans HR3.out
      have HBa : Hid (Below w.heap.size w (w3.alloc (.cells #[.int .u32 (x.g : Nat), .int .u32 (x.a : Nat), .int .u32 (x.b : Nat)] 59))) := HBB3.out.alloc (by omega) _
      go_wp2_with (at_builtin; refine wpList_append_m rfl (.tmp 27) (.tmp 31) 38 38 rfl (w.heap.size + 1) 59 i0 _ 3 12 Tryz.underlying38 HI.out HZ0.out HZ1.out HZ2.out rfl (by decide) (.slice A k cK) k ((oneN 12 lg12 k s).flatMap Lg.cs) rfl HOB.out _ 1 _ rfl HS.out HM.out HY.out HBS.out ?_)
      intro v' w5 hown hgr hat
      obtain ⟨A6, c6, rfl⟩ := hown.form
      have hob : ∀ q, (Value.slice A k cK).ownBlock = some q → w.heap.size + 1 ≤ q := fun q hq => (OwnM.lt HOB.out q hq).1
      have HN5 : Hid (OwnL w5 (w.heap.size + 1) 59 3 Lg.cs (.slice A6 (k + 1) c6) (oneN 12 lg12 (k + 1) s)) := by
        show OwnL _ _ _ _ _ _ _
        rw [HAS.out]
        refine OwnL.snoc ?_
        rw [oneN_len]
        exact hown
      have HR5 : Hid (RdAt w5 w.heap.size (nxN 12 (k + 1) s)) := by
        show RdAt _ _ _
        rw [HNX.out]
        exact (hgr.block _ HRa.out.lt (fun e => by have := hob _ e.symm; omega)).trans HRa.out
      have HBB5 : Hid (Below w.heap.size w w5) := HBa.out.grown hgr (by simp; omega) (fun q hq => by have := hob _ hq; omega)
      clear hown hgr hat hob HOB HOa HRa HBa
      go_wp2_with fail
      refine ⟨⟨k + 1, A6, c6, rfl, by omega, HR5.out, HN5.out, HBB5.out⟩, ?_⟩
      show mRd _ _ < mRd _ _
      rw [mRd_at HR5.out, HMEAS.out, HNX.out, HSZ.out]
      omega
    · have hke : s.size / 12 = k := by have := HB1.out; omega
      have ht0 : ¬ (12 : Int) ≤ (t.size : Int) := by omega
      have HOWk := HOW
      rw [← hke] at HOWk
      have HKS : Hid (k ≤ 140737488351232) := by show k ≤ _; omega
      have HL1 : Hid ((srt ltL (oneN 12 lg12 (s.size / 12) s)).length = k) := by show _ = _; rw [srt_len, oneN_len, hke]
      have HLD : Hid ((dd (srt ltL (oneN 12 lg12 (s.size / 12) s))).length ≤ k) := by have := dd_len (srt ltL (oneN 12 lg12 (s.size / 12) s)); have h2 := HL1.out; show _ ≤ _; omega
      have HOL : Hid (∃ L, L = oneN 12 lg12 (s.size / 12) s ∧ L.length = k ∧ OwnL w2 (w.heap.size + 1) 59 3 Lg.cs (.slice A k cK) L) := ⟨_, rfl, by rw [oneN_len]; exact hke, by rw [hke]; exact HOW.out⟩
      clear HOWk HOW hke HAS HNX HMR HR
      obtain ⟨L, hLe, hLk, hLo⟩ := HOL.out
      rw [← hLe] at HTL HTS HL1 HLD
      have HLO := Lib.hid hLo
      have HLK := Lib.hid hLk
      clear hLe hLk hLo HOL
      go_wp2_with fail
      refine (HSO.out _ (w.heap.size + 1) (.slice A k cK) L HLO.out (by rw [HLK.out]; have := HKS.out; omega)).mono ?_
      rintro e w6 ⟨rfl, ho6, hg6⟩
      have HO6 := Lib.hid ho6
      have HB6 : Hid (Below w.heap.size w w6) := OwnM.below_grown HLO.out hg6 HBB.out (by have := HBB.out.size; exact this) (by omega)
      clear ho6 hg6 HBB HLO
      go_wp2_with fail
      refine (HCU.out _ (w.heap.size + 1) (.slice A k cK) (srt ltL L) HO6.out (by rw [HL1.out]; have := HKS.out; omega)).mono ?_
      rintro e w7 ⟨v7, rfl, ho7, hg7, hv7⟩
      have HB7 : Hid (Below w.heap.size w w7) := OwnM.below_grown HO6.out hg7 HB6.out (by have := HB6.out.size; exact this) (by omega)
      obtain ⟨A7, c7, rfl⟩ := ho7.form
      have HO7 := Lib.hid ho7
      clear ho7 hg7 hv7 HB6 HO6
      by_cases h64 : 64 < (dd (srt ltL L)).length
      · have HRN := Lib.hid (HTL.out h64)
        obtain ⟨m, hmm⟩ : ∃ m, m = (dd (srt ltL L)).length := ⟨_, rfl⟩
        rw [← hmm] at h64 ⊢
        have h64' : (64 : Int) < (m : Int) := by omega
        clear HTL HTS HLD HO7 hmm
        go_wp2_with fail
        go_ret2
        refine ⟨?_, HB7.out⟩
        rw [HRN.out]
        exact ⟨3, rfl, .inl rfl⟩
      · have HRN := Lib.hid (HTS.out h64)
        have HOF : Hid (RES = some (dd (srt ltL L)) ∧ OwnL w7 (w.heap.size + 1) 59 3 Lg.cs (.slice A7 (dd (srt ltL L)).length c7) (dd (srt ltL L))) := ⟨HRN.out, HO7.out⟩
        clear HTL HTS HLD HRN HO7
        generalize dd (srt ltL L) = D at h64 HOF ⊢
        obtain ⟨m, hmm⟩ : ∃ m, m = D.length := ⟨_, rfl⟩
        rw [← hmm] at h64 HOF ⊢
        have h64' : ¬ (64 : Int) < (m : Int) := by omega
        clear hmm
        go_wp2_with fail
        go_ret2
        refine ⟨?_, HB7.out⟩
        rw [HOF.out.1]
        exact ⟨_, rfl, HOF.out.2⟩
end Go.Proofs.YtkcojblflebomaaGreat
set_option linter.unusedVariables false
set_option linter.unusedSimpArgs false
namespace Go.Proofs.YtkcojblflebomaaGreat
open Go.RowKit Go.MapKept Go.Shelf
open Go.Lib hiding intOf

theorem wpList_store_verdict {ops : Array Oper} {rest : List Oper} {op : Oper} {a : Act} {w : World} {Q : Exit → Act → World → Prop} (hgd : op.guard = none) (x y : Operand) (ho : op.op = .store 42 x y) (b : Nat) (hx : a.eval x = .pointer (some ⟨b, 0, none⟩)) (p : Vd) (hy : a.eval y = .agg #[.int .i64 p.act, .int .u8 p.code, .int .u8 p.sub]) (q : Vd) (hc : CellsAt w b #[.int .i64 q.act, .int .u8 q.code, .int .u8 q.sub] 42)
    (h : wpList Tryz.prog ops Q rest (a.put op.dst undef) (w.setRow b #[.int .i64 p.act, .int .u8 p.code, .int .u8 p.sub])) : wpList Tryz.prog ops Q (op :: rest) a w :=
  wpList_store_row hgd 42 x y ho b p.ar hx hy 42 q.ar hc (by rw [verdict_size]; rfl) rfl (Array.all_eq_true_iff_forall_mem.2 (fun u hu => by
    simp only [Vd.ar, List.mem_toArray, List.mem_cons, List.not_mem_nil, or_false] at hu
    rcases hu with rfl | rfl | rfl <;> rfl)) h
theorem OwnL.raws {w : World} {base : Nat} {v : Value} {L : List Rw} (h : OwnL w base 32 3 Rw.cs v L) (hf : ∀ r ∈ L, r.v.size ≤ 9223372036854775807) : ∃ A c, v = .slice A L.length c ∧ RwsOk w A c L := by
  obtain ⟨A, c, hv, hr, hl, hc⟩ := OwnL.rd Rw.cs_len h
  exact ⟨A, c, hv, hr, hl, hc, hf⟩
theorem one_fits : ∀ r ∈ oneRaws, r.v.size ≤ 140737488351232 := by
  intro r hr
  simp only [oneRaws, List.mem_cons, List.not_mem_nil, or_false] at hr
  rcases hr with rfl | rfl | rfl <;> decide
theorem one_own {w : World} {base : Nat} {v : Value} (h : OwnL w base 32 3 Rw.cs v oneRaws) : ∃ A c, v = .slice A 3 c ∧ RwsOk w A c oneRaws := h.raws (fun r hr => Nat.le_trans (one_fits r hr) (by decide))
theorem work_write (a : Atr) (w : World) (h : AtrOk w a) (hc : a.c = oneC) : Calls Tryz.prog 25 #[a.v, .bool true] w fun e w' => (∃ A c, e = .returned (.tuple #[.slice A 3 c, .int .i64 0]) ∧ RwsOk w' A c oneRaws) ∧ Below w.heap.size w w' := by
  refine (write_ok a true w h (by rw [hc]; exact one_ok) (enc_none (by show a.c.comms = []; rw [hc]; rfl) (by show a.c.exts = []; rw [hc]; rfl) (by show a.c.larges = []; rw [hc]; rfl))).mono ?_
  rintro e w' ⟨⟨v, rfl, ho⟩, hb⟩
  rw [hc, one_write] at ho
  obtain ⟨A, c, rfl, hr⟩ := one_own ho
  exact ⟨⟨A, c, rfl, hr⟩, hb⟩
theorem work_lay (A : Option Addr) (c : Nat) (w : World) (h : RwsOk w A c oneRaws) : Calls Tryz.prog 13 #[.slice A 3 c] w fun e w' => e = .returned (.tuple #[.string (ByteArray.mk #[64, 1, 1, 1, 64, 2, 6, 2, 1, 0, 0, 0, 1, 64, 3, 4, 10, 0, 0, 1]), .int .i64 0]) ∧ Below w.heap.size w w' := by
  have h2 := lay_any A c oneRaws w h
  rw [one_lay] at h2
  exact h2
theorem work_split (w : World) : Calls Tryz.prog 17 #[.string (ByteArray.mk #[64, 1, 1, 1, 64, 2, 6, 2, 1, 0, 0, 0, 1, 64, 3, 4, 10, 0, 0, 1])] w fun e w' => (∃ A c, e = .returned (.tuple #[.slice A 3 c, .bool true]) ∧ RwsOk w' A c oneRaws) ∧ Below w.heap.size w w' := by
  have h2 := split_any laidB w (by decide)
  rw [one_split] at h2
  refine h2.mono ?_
  rintro e w' ⟨⟨v, rfl, ho⟩, hb⟩
  obtain ⟨A, c, rfl, hr⟩ := one_own ho
  exact ⟨⟨A, c, rfl, hr⟩, hb⟩
theorem work_T : ∀ x ∈ oneRaws, ∀ b wr i f, rowF x.t.toNat = some (b, wr, i, f) → TakesT workT x.t.toNat f := by
  intro x hx b wr i f h
  simp only [oneRaws, List.mem_cons, List.not_mem_nil, or_false] at hx
  rcases hx with rfl | rfl | rfl
  · obtain ⟨rfl, rfl, rfl, rfl⟩ : (64 : Int) = b ∧ (2 : Int) = wr ∧ false = i ∧ 73 = f := by simpa [rowF] using h
    exact ⟨takes1, fun v four c => by show (take1 v c).1.clus = c.clus; unfold take1; split <;> rfl⟩
  · obtain ⟨rfl, rfl, rfl, rfl⟩ : (64 : Int) = b ∧ (2 : Int) = wr ∧ false = i ∧ 74 = f := by simpa [rowF] using h
    exact ⟨takes2, fun v four c => by show (take2 v four c).1.clus = c.clus; unfold take2; split <;> rfl⟩
  · obtain ⟨rfl, rfl, rfl, rfl⟩ : (64 : Int) = b ∧ (2 : Int) = wr ∧ false = i ∧ 76 = f := by simpa [rowF] using h
    exact ⟨takes3, fun v four c => by rfl⟩
theorem work_read (A : Option Addr) (c : Nat) (w : World) (h : RwsOk w A c oneRaws) : Calls Tryz.prog 19 #[.slice A 3 c, .bool true, .bool true] w fun e w' => (∃ a : Atr, e = .returned (.tuple #[.agg a.ar, .agg #[.int .i64 0, .int .u8 0, .int .u8 0]]) ∧ AtrOk w' a ∧ a.c = oneC) ∧ Below w.heap.size w w' := by
  refine (read_any workT A c oneRaws true true w h one_fits work_T).mono ?_
  rintro e w' ⟨hp, hb⟩
  rw [show readF workT true true [] noC ⟨0, 0, 0⟩ oneRaws = (oneC, ⟨0, 0, 0⟩) from one_read] at hp
  obtain ⟨a, rfl, ho, hc⟩ := hp
  exact ⟨⟨a, rfl, ho.ok, hc⟩, hb⟩
theorem work_same (a b : Atr) (w : World) (h1 : AtrOk w a) (h2 : AtrOk w b) (e1 : a.c = oneC) (e2 : b.c = oneC) : Calls Tryz.prog 23 #[a.v, b.v] w fun e w' => e = .returned (.bool true) ∧ Below w.heap.size w w' := by
  have h := same_any a b w h1 h2
  rw [decide_eq_true (show a.c = b.c by rw [e1, e2])] at h
  exact h
set_option maxRecDepth 100000 in
set_option maxHeartbeats 4000000 in
theorem works_any (w : World) : Calls Tryz.prog 16 #[] w fun e w' => e = .returned (.bool true) ∧ Below w.heap.size w w' := by
  have HONE := Lib.hid one_any
  have HWR := Lib.hid work_write
  have HLA := Lib.hid work_lay
  have HSP := Lib.hid work_split
  have HRE := Lib.hid work_read
  have HSA := Lib.hid work_same
  go_enter Tryz.func16, Tryz.ntmps16
  go_wp2_with fail
  refine (HONE.out _).mono ?_
  rintro e w1 ⟨⟨a0, rfl, ha0, hc0⟩, hb1⟩
  have HA0 := Lib.hid ha0
  have HC0 := Lib.hid hc0
  have HB1 := Lib.hid hb1
  clear ha0 hc0 hb1
  go_wp2_with fail
  refine (HWR.out a0 _ HA0.out HC0.out).mono ?_
  rintro e w2 ⟨⟨A, c, rfl, hr⟩, hb2⟩
  have HR := Lib.hid hr
  have HB2 := Lib.hid (HB1.out.trans (hb2.mono HB1.out.size))
  clear hr hb2 HB1 HA0 HC0
  go_wp2_with fail
  refine (HLA.out A c _ HR.out).mono ?_
  rintro e w3 ⟨rfl, hb3⟩
  have HB3 := Lib.hid (HB2.out.trans (hb3.mono HB2.out.size))
  clear hb3 HB2 HR
  go_wp2_with fail
  refine (HSP.out _).mono ?_
  rintro e w4 ⟨⟨B, d, rfl, hr⟩, hb4⟩
  have HR := Lib.hid hr
  have HB4 := Lib.hid (HB3.out.trans (hb4.mono HB3.out.size))
  clear hr hb4 HB3
  go_wp2_with fail
  refine (HRE.out B d _ HR.out).mono ?_
  rintro e w5 ⟨⟨a1, rfl, ha1, hc1⟩, hb5⟩
  have HA1 := Lib.hid ha1
  have HC1 := Lib.hid hc1
  have HB5 := Lib.hid (HB4.out.trans (hb5.mono HB4.out.size))
  clear ha1 hc1 hb5 HB4 HR
  have e5 : ∀ cs : Array Value, (w5.alloc (.cells cs 40)).heap.size = w5.heap.size + 1 := fun cs => by simp
  have HZ : Hid (∀ cs : Array Value, CellsAt ((w5.alloc (.cells cs 40)).alloc (.cells #[.int .i64 0, .int .u8 0, .int .u8 0] 42)) w5.heap.size cs 40) := fun cs => (CellsAt.new _ _ _).alloc _
  have HY : Hid (∀ cs : Array Value, CellsAt (((w5.alloc (.cells cs 40)).alloc (.cells #[.int .i64 0, .int .u8 0, .int .u8 0] 42)).setRow w5.heap.size a1.ar) (w5.heap.size + 1) #[.int .i64 0, .int .u8 0, .int .u8 0] 42) := fun cs => by
    have h := CellsAt.new (w5.alloc (.cells cs 40)) #[.int .i64 0, .int .u8 0, .int .u8 0] 42
    rw [e5] at h
    exact h.row (grown_setRow _ _ _) (by omega)
  have HV1 : Hid (∀ cs : Array Value, CellsAt ((((w5.alloc (.cells cs 40)).alloc (.cells #[.int .i64 0, .int .u8 0, .int .u8 0] 42)).setRow w5.heap.size a1.ar).setRow (w5.heap.size + 1) #[.int .i64 0, .int .u8 0, .int .u8 0]) w5.heap.size a1.ar 40) := fun cs => ((HZ.out cs).setRow _).row (grown_setRow _ _ _) (by omega)
  have HV2 : Hid (∀ cs : Array Value, CellsAt ((((w5.alloc (.cells cs 40)).alloc (.cells #[.int .i64 0, .int .u8 0, .int .u8 0] 42)).setRow w5.heap.size a1.ar).setRow (w5.heap.size + 1) #[.int .i64 0, .int .u8 0, .int .u8 0]) (w5.heap.size + 1) #[.int .i64 0, .int .u8 0, .int .u8 0] 42) := fun cs => (HY.out cs).setRow _
  have HV5 : Hid (∀ cs : Array Value, Below w5.heap.size w5 ((((w5.alloc (.cells cs 40)).alloc (.cells #[.int .i64 0, .int .u8 0, .int .u8 0] 42)).setRow w5.heap.size a1.ar).setRow (w5.heap.size + 1) #[.int .i64 0, .int .u8 0, .int .u8 0])) := fun cs => ((((Below.refl _ _).alloc (Nat.le_refl _) _).alloc (by simp) _).grown (grown_setRow _ _ _) (by simp; omega) (fun k hk => by cases hk; omega)).grown (grown_setRow _ _ _) (by simp [setRow_size]; omega) (fun k hk => by cases hk; omega)
  have HV3 : Hid (∀ cs : Array Value, AtrOk ((((w5.alloc (.cells cs 40)).alloc (.cells #[.int .i64 0, .int .u8 0, .int .u8 0] 42)).setRow w5.heap.size a1.ar).setRow (w5.heap.size + 1) #[.int .i64 0, .int .u8 0, .int .u8 0]) a1) := fun cs => HA1.out.below (HV5.out cs) (Nat.le_refl _)
  have hs5 := HB5.out.size
  have HV4 : Hid (∀ cs : Array Value, Below w.heap.size w ((((w5.alloc (.cells cs 40)).alloc (.cells #[.int .i64 0, .int .u8 0, .int .u8 0] 42)).setRow w5.heap.size a1.ar).setRow (w5.heap.size + 1) #[.int .i64 0, .int .u8 0, .int .u8 0])) := fun cs => HB5.out.trans ((HV5.out cs).mono hs5)
  clear HB5 HA1 hs5 HV5 e5
  go_upto_region 5 with (with_reducible show wpList _ _ _ (_ :: _) _ _; first | refine wpList_store_attrs rfl (.tmp 7) (.tmp 26) rfl w5.heap.size rfl a1 rfl noAtr (HZ.out _) ?_ | refine wpList_store_verdict rfl (.tmp 8) (.tmp 27) rfl (w5.heap.size + 1) rfl ⟨0, 0, 0⟩ rfl ⟨0, 0, 0⟩ (HY.out _) ?_)
  refine wp_region_held_drew (S := fun w' => CellsAt w' w5.heap.size a1.ar 40 ∧ CellsAt w' (w5.heap.size + 1) #[.int .i64 0, .int .u8 0, .int .u8 0] 42 ∧ AtrOk w' a1 ∧ Below w.heap.size w w') (by kernel_rfl) (⟨(HV1.out _).drew 1, (HV2.out _).drew 1, (HV3.out _).below (below_drewN (Below.refl _ _) 1) (Nat.le_refl _), below_drewN (HV4.out _) 1⟩) (fun hHeld => ?_)
  refine wpAnyH_take (i := 0) (oi := { dst := some 28, op := Op.move (Operand.tmp 2), type := 23, pos := "outright.go:23", after := #[], guard := none }) (v := ?_) rfl (by kernel_rfl) (by kernel_rfl) (by kernel_rfl) (fun _ _ _ h => h) (Or.inl ⟨by rfl, ?_⟩) hHeld ?_
  rotate_left
  · intro w hSw
    clear hSw
    go_simp
    try with_reducible rfl
  try simp only [Act.put, List.setIfInBounds_toArray, List.set_cons_zero, List.set_cons_succ]
  refine wpAnyH_take (i := 1) (oi := { dst := some 29, op := Op.binOp BinOp.eql 23 (Operand.tmp 28) (Operand.const (Value.int IntKind.i64 0)) 23, type := 4, pos := "outright.go:23", after := #[{ on := 0, ground := Ground.data }], guard := none }) (v := ?_) rfl (by kernel_rfl) (by kernel_rfl) (by kernel_rfl) (fun _ _ _ h => h) (Or.inl ⟨by rfl, ?_⟩) hHeld ?_
  rotate_left
  · intro w hSw
    clear hSw
    go_simp
    try with_reducible rfl
  try simp only [Act.put, List.setIfInBounds_toArray, List.set_cons_zero, List.set_cons_succ]
  refine wpAnyH_take (i := 2) (oi := { dst := some 30, op := Op.move (Operand.tmp 29), type := 4, pos := "outright.go:23", after := #[{ on := 1, ground := Ground.data }], guard := none }) (v := ?_) rfl (by kernel_rfl) (by kernel_rfl) (by kernel_rfl) (fun _ _ _ h => h) (Or.inl ⟨by rfl, ?_⟩) hHeld ?_
  rotate_left
  · intro w hSw
    clear hSw
    go_simp
    try with_reducible rfl
  try simp only [Act.put, List.setIfInBounds_toArray, List.set_cons_zero, List.set_cons_succ]
  refine wpAnyH_take (i := 3) (oi := { dst := some 31, op := Op.move (Operand.tmp 4), type := 23, pos := "outright.go:23", after := #[{ on := 2, ground := Ground.guard }], guard := some (2, true) }) (v := ?_) rfl (by kernel_rfl) (by kernel_rfl) (by kernel_rfl) (fun _ _ _ h => h) (Or.inl ⟨by rfl, ?_⟩) hHeld ?_
  rotate_left
  · intro w hSw
    clear hSw
    go_simp
    try with_reducible rfl
  try simp only [Act.put, List.setIfInBounds_toArray, List.set_cons_zero, List.set_cons_succ]
  refine wpAnyH_take (i := 4) (oi := { dst := some 32, op := Op.binOp BinOp.eql 23 (Operand.tmp 31) (Operand.const (Value.int IntKind.i64 0)) 23, type := 4, pos := "outright.go:23", after := #[{ on := 3, ground := Ground.data }, { on := 2, ground := Ground.guard }], guard := some (2, true) }) (v := ?_) rfl (by kernel_rfl) (by kernel_rfl) (by kernel_rfl) (fun _ _ _ h => h) (Or.inl ⟨by rfl, ?_⟩) hHeld ?_
  rotate_left
  · intro w hSw
    clear hSw
    go_simp
    try with_reducible rfl
  try simp only [Act.put, List.setIfInBounds_toArray, List.set_cons_zero, List.set_cons_succ]
  refine wpAnyH_take (i := 5) (oi := { dst := some 33, op := Op.pick (Operand.tmp 30) (Operand.tmp 32) (Operand.const (Value.bool false)), type := 4, pos := "outright.go:23", after := #[{ on := 2, ground := Ground.data }, { on := 4, ground := Ground.data }], guard := none }) (v := ?_) rfl (by kernel_rfl) (by kernel_rfl) (by kernel_rfl) (fun _ _ _ h => h) (Or.inl ⟨by rfl, ?_⟩) hHeld ?_
  rotate_left
  · intro w hSw
    clear hSw
    go_simp
    try with_reducible rfl
  try simp only [Act.put, List.setIfInBounds_toArray, List.set_cons_zero, List.set_cons_succ]
  refine wpAnyH_take (i := 6) (oi := { dst := some 34, op := Op.move (Operand.tmp 33), type := 4, pos := "outright.go:23", after := #[{ on := 5, ground := Ground.data }, { on := 2, ground := Ground.chain }], guard := none }) (v := ?_) rfl (by kernel_rfl) (by kernel_rfl) (by kernel_rfl) (fun _ _ _ h => h) (Or.inl ⟨by rfl, ?_⟩) hHeld ?_
  rotate_left
  · intro w hSw
    clear hSw
    go_simp
    try with_reducible rfl
  try simp only [Act.put, List.setIfInBounds_toArray, List.set_cons_zero, List.set_cons_succ]
  refine wpAnyH_take (i := 7) (oi := { dst := some 35, op := Op.move (Operand.tmp 3), type := 9, pos := "outright.go:23", after := #[{ on := 6, ground := Ground.guard }], guard := some (6, true) }) (v := ?_) rfl (by kernel_rfl) (by kernel_rfl) (by kernel_rfl) (fun _ _ _ h => h) (Or.inl ⟨by rfl, ?_⟩) hHeld ?_
  rotate_left
  · intro w hSw
    clear hSw
    go_simp
    try with_reducible rfl
  try simp only [Act.put, List.setIfInBounds_toArray, List.set_cons_zero, List.set_cons_succ]
  refine wpAnyH_take (i := 8) (oi := { dst := some 36, op := Op.binOp BinOp.eql 9 (Operand.tmp 35) (Operand.const (Value.string { data := #[64, 1, 1, 1, 64, 2, 6, 2, 1, 0, 0, 0, 1, 64, 3, 4, 10, 0, 0, 1] })) 9, type := 4, pos := "outright.go:23", after := #[{ on := 7, ground := Ground.data }, { on := 6, ground := Ground.guard }], guard := some (6, true) }) (v := ?_) rfl (by kernel_rfl) (by kernel_rfl) (by kernel_rfl) (fun _ _ _ h => h) (Or.inl ⟨by rfl, ?_⟩) hHeld ?_
  rotate_left
  · intro w hSw
    clear hSw
    go_simp
    try with_reducible rfl
  try simp only [Act.put, List.setIfInBounds_toArray, List.set_cons_zero, List.set_cons_succ]
  refine wpAnyH_take (i := 9) (oi := { dst := some 37, op := Op.pick (Operand.tmp 34) (Operand.tmp 36) (Operand.const (Value.bool false)), type := 4, pos := "outright.go:23", after := #[{ on := 6, ground := Ground.data }, { on := 8, ground := Ground.data }], guard := none }) (v := ?_) rfl (by kernel_rfl) (by kernel_rfl) (by kernel_rfl) (fun _ _ _ h => h) (Or.inl ⟨by rfl, ?_⟩) hHeld ?_
  rotate_left
  · intro w hSw
    clear hSw
    go_simp
    try with_reducible rfl
  try simp only [Act.put, List.setIfInBounds_toArray, List.set_cons_zero, List.set_cons_succ]
  refine wpAnyH_take (i := 10) (oi := { dst := some 38, op := Op.move (Operand.tmp 37), type := 4, pos := "outright.go:23", after := #[{ on := 9, ground := Ground.data }, { on := 6, ground := Ground.chain }], guard := none }) (v := ?_) rfl (by kernel_rfl) (by kernel_rfl) (by kernel_rfl) (fun _ _ _ h => h) (Or.inl ⟨by rfl, ?_⟩) hHeld ?_
  rotate_left
  · intro w hSw
    clear hSw
    go_simp
    try with_reducible rfl
  try simp only [Act.put, List.setIfInBounds_toArray, List.set_cons_zero, List.set_cons_succ]
  refine wpAnyH_take (i := 11) (oi := { dst := some 39, op := Op.move (Operand.tmp 6), type := 4, pos := "outright.go:23", after := #[{ on := 10, ground := Ground.guard }], guard := some (10, true) }) (v := ?_) rfl (by kernel_rfl) (by kernel_rfl) (by kernel_rfl) (fun _ _ _ h => h) (Or.inl ⟨by rfl, ?_⟩) hHeld ?_
  rotate_left
  · intro w hSw
    clear hSw
    go_simp
    try with_reducible rfl
  try simp only [Act.put, List.setIfInBounds_toArray, List.set_cons_zero, List.set_cons_succ]
  refine wpAnyH_take (i := 12) (oi := { dst := some 40, op := Op.pick (Operand.tmp 38) (Operand.tmp 39) (Operand.const (Value.bool false)), type := 4, pos := "outright.go:23", after := #[{ on := 10, ground := Ground.data }, { on := 11, ground := Ground.data }], guard := none }) (v := ?_) rfl (by kernel_rfl) (by kernel_rfl) (by kernel_rfl) (fun _ _ _ h => h) (Or.inl ⟨by rfl, ?_⟩) hHeld ?_
  rotate_left
  · intro w hSw
    clear hSw
    go_simp
    try with_reducible rfl
  try simp only [Act.put, List.setIfInBounds_toArray, List.set_cons_zero, List.set_cons_succ]
  refine wpAnyH_take (i := 13) (oi := { dst := some 41, op := Op.move (Operand.tmp 40), type := 4, pos := "outright.go:23", after := #[{ on := 12, ground := Ground.data }, { on := 10, ground := Ground.chain }], guard := none }) (v := ?_) rfl (by kernel_rfl) (by kernel_rfl) (by kernel_rfl) (fun _ _ _ h => h) (Or.inl ⟨by rfl, ?_⟩) hHeld ?_
  rotate_left
  · intro w hSw
    clear hSw
    go_simp
    try with_reducible rfl
  try simp only [Act.put, List.setIfInBounds_toArray, List.set_cons_zero, List.set_cons_succ]
  refine wpAnyH_take (i := 14) (oi := { dst := some 42, op := Op.move (Operand.tmp 5), type := 22, pos := "outright.go:23", after := #[{ on := 13, ground := Ground.guard }], guard := some (13, true) }) (v := ?_) rfl (by kernel_rfl) (by kernel_rfl) (by kernel_rfl) (fun _ _ _ h => h) (Or.inl ⟨by rfl, ?_⟩) hHeld ?_
  rotate_left
  · intro w hSw
    clear hSw
    go_simp
    try with_reducible rfl
  try simp only [Act.put, List.setIfInBounds_toArray, List.set_cons_zero, List.set_cons_succ]
  refine wpAnyH_take (i := 15) (oi := { dst := some 43, op := Op.call { callee := Callee.builtin Builtin.len, args := #[Operand.tmp 42], argTypes := #[22] }, type := 3, pos := "outright.go:23", after := #[{ on := 14, ground := Ground.data }, { on := 13, ground := Ground.guard }], guard := some (13, true) }) (v := ?_) rfl (by kernel_rfl) (by kernel_rfl) (by kernel_rfl) (fun _ _ _ h => h) (Or.inl ⟨by rfl, ?_⟩) hHeld ?_
  rotate_left
  · intro w hSw
    clear hSw
    go_simp
    try with_reducible rfl
  try simp only [Act.put, List.setIfInBounds_toArray, List.set_cons_zero, List.set_cons_succ]
  refine wpAnyH_take (i := 16) (oi := { dst := some 44, op := Op.binOp BinOp.eql 3 (Operand.tmp 43) (Operand.const (Value.int IntKind.i64 3)) 3, type := 4, pos := "outright.go:23", after := #[{ on := 15, ground := Ground.data }, { on := 13, ground := Ground.guard }], guard := some (13, true) }) (v := ?_) rfl (by kernel_rfl) (by kernel_rfl) (by kernel_rfl) (fun _ _ _ h => h) (Or.inl ⟨by rfl, ?_⟩) hHeld ?_
  rotate_left
  · intro w hSw
    clear hSw
    go_simp
    try with_reducible rfl
  try simp only [Act.put, List.setIfInBounds_toArray, List.set_cons_zero, List.set_cons_succ]
  refine wpAnyH_take (i := 17) (oi := { dst := some 45, op := Op.pick (Operand.tmp 41) (Operand.tmp 44) (Operand.const (Value.bool false)), type := 4, pos := "outright.go:23", after := #[{ on := 13, ground := Ground.data }, { on := 16, ground := Ground.data }], guard := none }) (v := ?_) rfl (by kernel_rfl) (by kernel_rfl) (by kernel_rfl) (fun _ _ _ h => h) (Or.inl ⟨by rfl, ?_⟩) hHeld ?_
  rotate_left
  · intro w hSw
    clear hSw
    go_simp
    try with_reducible rfl
  try simp only [Act.put, List.setIfInBounds_toArray, List.set_cons_zero, List.set_cons_succ]
  refine wpAnyH_take (i := 18) (oi := { dst := some 46, op := Op.move (Operand.tmp 45), type := 4, pos := "outright.go:23", after := #[{ on := 17, ground := Ground.data }, { on := 13, ground := Ground.chain }], guard := none }) (v := ?_) rfl (by kernel_rfl) (by kernel_rfl) (by kernel_rfl) (fun _ _ _ h => h) (Or.inl ⟨by rfl, ?_⟩) hHeld ?_
  rotate_left
  · intro w hSw
    clear hSw
    go_simp
    try with_reducible rfl
  try simp only [Act.put, List.setIfInBounds_toArray, List.set_cons_zero, List.set_cons_succ]
  refine wpAnyH_take (i := 19) (oi := { dst := some 47, op := Op.load 42 (Operand.tmp 8), type := 42, pos := "outright.go:23", after := #[{ on := 18, ground := Ground.guard }], guard := some (18, true) }) (v := .agg #[.int .i64 0, .int .u8 0, .int .u8 0]) rfl (by kernel_rfl) (by kernel_rfl) (by kernel_rfl) (fun _ _ _ h => h) (yields_verdict (by rfl) _ rfl (w5.heap.size + 1) (by rfl) ⟨0, 0, 0⟩ (fun w h => h.2.1)) hHeld ?_
  try simp only [Act.put, List.setIfInBounds_toArray, List.set_cons_zero, List.set_cons_succ]
  refine wpAnyH_take (i := 20) (oi := { dst := some 48, op := Op.build 42 #[], type := 42, pos := "outright.go:23", after := #[{ on := 18, ground := Ground.guard }], guard := some (18, true) }) (v := ?_) rfl (by kernel_rfl) (by kernel_rfl) (by kernel_rfl) (fun _ _ _ h => h) (Or.inl ⟨by rfl, ?_⟩) hHeld ?_
  rotate_left
  · intro w hSw
    clear hSw
    go_simp
    try with_reducible rfl
  try simp only [Act.put, List.setIfInBounds_toArray, List.set_cons_zero, List.set_cons_succ]
  refine wpAnyH_take (i := 21) (oi := { dst := some 49, op := Op.binOp BinOp.eql 42 (Operand.tmp 47) (Operand.tmp 48) 42, type := 4, pos := "outright.go:23", after := #[{ on := 19, ground := Ground.data }, { on := 20, ground := Ground.data }, { on := 18, ground := Ground.guard }], guard := some (18, true) }) (v := .bool true) rfl (by kernel_rfl) (by kernel_rfl) (by kernel_rfl) (fun _ _ _ h => h) (Or.inl ⟨by rfl, ?_⟩) hHeld ?_
  · intro w hSw
    clear hSw
    go_simp
    skip
  try simp only [Act.put, List.setIfInBounds_toArray, List.set_cons_zero, List.set_cons_succ]
  refine wpAnyH_take (i := 22) (oi := { dst := some 50, op := Op.pick (Operand.tmp 46) (Operand.tmp 49) (Operand.const (Value.bool false)), type := 4, pos := "outright.go:23", after := #[{ on := 18, ground := Ground.data }, { on := 21, ground := Ground.data }], guard := none }) (v := ?_) rfl (by kernel_rfl) (by kernel_rfl) (by kernel_rfl) (fun _ _ _ h => h) (Or.inl ⟨by rfl, ?_⟩) hHeld ?_
  rotate_left
  · intro w hSw
    clear hSw
    go_simp
    try with_reducible rfl
  try simp only [Act.put, List.setIfInBounds_toArray, List.set_cons_zero, List.set_cons_succ]
  refine wpAnyH_take (i := 23) (oi := { dst := some 51, op := Op.move (Operand.tmp 50), type := 4, pos := "outright.go:23", after := #[{ on := 22, ground := Ground.data }, { on := 18, ground := Ground.chain }], guard := none }) (v := ?_) rfl (by kernel_rfl) (by kernel_rfl) (by kernel_rfl) (fun _ _ _ h => h) (Or.inl ⟨by rfl, ?_⟩) hHeld ?_
  rotate_left
  · intro w hSw
    clear hSw
    go_simp
    try with_reducible rfl
  try simp only [Act.put, List.setIfInBounds_toArray, List.set_cons_zero, List.set_cons_succ]
  refine wpAnyH_take (i := 24) (oi := { dst := some 52, op := Op.load 40 (Operand.tmp 7), type := 40, pos := "outright.go:23", after := #[{ on := 23, ground := Ground.guard }], guard := some (23, true) }) (v := .agg a1.ar) rfl (by kernel_rfl) (by kernel_rfl) (by kernel_rfl) (fun _ _ _ h => h) (yields_attrs (by rfl) _ rfl w5.heap.size (by rfl) a1 (fun w h => h.1)) hHeld ?_
  try simp only [Act.put, List.setIfInBounds_toArray, List.set_cons_zero, List.set_cons_succ]
  refine wpAnyH_ready (rs := [25]) (by kernel_rfl) (by simp) ?_
  refine AllReadyH.cons (o := { dst := some 53, op := Op.call { callee := Callee.value (Operand.func 32), args := #[], argTypes := #[] }, type := 40, pos := "outright.go:23", after := #[{ on := 23, ground := Ground.chain }, { on := 23, ground := Ground.guard }], guard := some (23, true) }) rfl (fun K hK => ?_) AllReadyH.nil
  go_simp
  refine (HONE.out _).mono ?_
  rintro e w6 ⟨⟨a2, rfl, ha2, hc2⟩, hb6⟩
  have HS6 := Lib.hid hHeld
  have HA2 := Lib.hid ha2
  have HC2 := Lib.hid hc2
  refine hK.out _ _ (⟨HS6.out.1.below hb6 HS6.out.1.lt, HS6.out.2.1.below hb6 HS6.out.2.1.lt, HS6.out.2.2.1.below hb6 (Nat.le_refl _), HS6.out.2.2.2.trans (hb6.mono HS6.out.2.2.2.size)⟩) (fun hHeld => ?_)
  clear hK K
  try simp only [Act.put, List.setIfInBounds_toArray, List.set_cons_zero, List.set_cons_succ]
  refine wpAnyH_ready (rs := [26]) (by kernel_rfl) (by simp) ?_
  refine AllReadyH.cons (o := { dst := some 54, op := Op.call { callee := Callee.value (Operand.func 23), args := #[Operand.tmp 52, Operand.tmp 53], argTypes := #[40, 40] }, type := 4, pos := "outright.go:23", after := #[{ on := 24, ground := Ground.data }, { on := 25, ground := Ground.data }, { on := 25, ground := Ground.chain }, { on := 23, ground := Ground.guard }], guard := some (23, true) }) rfl (fun K hK => ?_) AllReadyH.nil
  go_simp
  refine (HSA.out a1 a2 _ hHeld.2.2.1 HA2.out HC1.out HC2.out).mono ?_
  rintro e w7 ⟨rfl, hb7⟩
  have HS7 := Lib.hid hHeld
  refine hK.out _ _ (⟨HS7.out.1.below hb7 HS7.out.1.lt, HS7.out.2.1.below hb7 HS7.out.2.1.lt, HS7.out.2.2.1.below hb7 (Nat.le_refl _), HS7.out.2.2.2.trans (hb7.mono HS7.out.2.2.2.size)⟩) (fun hHeld => ?_)
  clear hK K
  try simp only [Act.put, List.setIfInBounds_toArray, List.set_cons_zero, List.set_cons_succ]
  refine wpAnyH_take (i := 27) (oi := { dst := some 55, op := Op.pick (Operand.tmp 51) (Operand.tmp 54) (Operand.const (Value.bool false)), type := 4, pos := "outright.go:23", after := #[{ on := 23, ground := Ground.data }, { on := 26, ground := Ground.data }], guard := none }) (v := ?_) rfl (by kernel_rfl) (by kernel_rfl) (by kernel_rfl) (fun _ _ _ h => h) (Or.inl ⟨by rfl, ?_⟩) hHeld ?_
  rotate_left
  · intro w hSw
    clear hSw
    go_simp
    try with_reducible rfl
  try simp only [Act.put, List.setIfInBounds_toArray, List.set_cons_zero, List.set_cons_succ]
  refine wpAnyH_take (i := 28) (oi := { dst := some 0, op := Op.assign (Operand.tmp 55), type := 4, pos := "outright.go:23", after := #[{ on := 27, ground := Ground.data }, { on := 26, ground := Ground.chain }, { on := 0, ground := Ground.phase }, { on := 1, ground := Ground.phase }, { on := 2, ground := Ground.phase }, { on := 3, ground := Ground.phase }, { on := 4, ground := Ground.phase }, { on := 5, ground := Ground.phase }, { on := 6, ground := Ground.phase }, { on := 7, ground := Ground.phase }, { on := 8, ground := Ground.phase }, { on := 9, ground := Ground.phase }, { on := 10, ground := Ground.phase }, { on := 11, ground := Ground.phase }, { on := 12, ground := Ground.phase }, { on := 13, ground := Ground.phase }, { on := 14, ground := Ground.phase }, { on := 15, ground := Ground.phase }, { on := 16, ground := Ground.phase }, { on := 17, ground := Ground.phase }, { on := 18, ground := Ground.phase }, { on := 19, ground := Ground.phase }, { on := 20, ground := Ground.phase }, { on := 21, ground := Ground.phase }, { on := 22, ground := Ground.phase }, { on := 23, ground := Ground.phase }, { on := 24, ground := Ground.phase }, { on := 25, ground := Ground.phase }, { on := 26, ground := Ground.phase }, { on := 27, ground := Ground.phase }], guard := none }) (v := ?_) rfl (by kernel_rfl) (by kernel_rfl) (by kernel_rfl) (fun _ _ _ h => h) (Or.inl ⟨by rfl, ?_⟩) hHeld ?_
  rotate_left
  · intro w hSw
    clear hSw
    go_simp
    try with_reducible rfl
  try simp only [Act.put, List.setIfInBounds_toArray, List.set_cons_zero, List.set_cons_succ]
  refine wpAnyH_done (by kernel_rfl) ?_ _
  have HE := Lib.hid hHeld
  clear hHeld
  go_wp2_with fail
  go_ret
  exact ⟨rfl, HE.out.2.2.2⟩
end Go.Proofs.YtkcojblflebomaaGreat
set_option linter.unusedVariables false
set_option linter.unusedSimpArgs false
namespace Go.Proofs.YtkcojblflebomaaGreat
open Go.RowKit Go.MapKept Go.Shelf
open Go.Lib hiding intOf
open Go.Sort hiding Below

theorem atOk_iff (c : AtC) : atOk c = true ↔ (0 ≤ c.origin ∧ c.origin ≤ 2) ∧ pathOk c.path = true ∧ nextOk c.next = true ∧ spareOk c = true ∧ listsOk c = true := by
  unfold atOk
  simp only [Bool.and_eq_true, decide_eq_true_eq, and_assoc]
theorem lists_iff (c : AtC) : listsOk c = true ↔ c.clus.length ≤ 32 ∧ (riseB ltN c.comms = true ∧ c.comms.length ≤ 64) ∧ (riseB ltN c.exts = true ∧ c.exts.length ≤ 64) ∧ (riseB ltL c.larges = true ∧ c.larges.length ≤ 64) := by
  unfold listsOk
  simp only [Bool.and_eq_true, decide_eq_true_eq, and_assoc]
theorem spare_iff (c : AtC) : spareOk c = true ↔ (c.hasMed = true ∨ c.med = 0) ∧ (c.hasPref = true ∨ c.pref = 0) ∧ (c.hasOrig = true ∨ c.orig = 0) ∧ (c.aggAs ≠ 0 ∨ c.aggId = 0) := by
  unfold spareOk
  simp only [Bool.and_eq_true, Bool.or_eq_true, beq_iff_eq, Bool.not_eq_true', beq_eq_false_iff_ne, ne_eq, and_assoc]
theorem tab_1 (v : ByteArray) (four : Bool) (c : AtC) : tab 1 v four c = take1 v c := rfl
theorem tab_2 (v : ByteArray) (four : Bool) (c : AtC) : tab 2 v four c = take2 v four c := rfl
theorem tab_3 (v : ByteArray) (four : Bool) (c : AtC) : tab 3 v four c = take3 v c := rfl
theorem tab_4 (v : ByteArray) (four : Bool) (c : AtC) : tab 4 v four c = take4 v c := rfl
theorem tab_5 (v : ByteArray) (four : Bool) (c : AtC) : tab 5 v four c = take5 v c := rfl
theorem tab_6 (v : ByteArray) (four : Bool) (c : AtC) : tab 6 v four c = take6 v c := rfl
theorem tab_7 (v : ByteArray) (four : Bool) (c : AtC) : tab 7 v four c = take7 v four c := rfl
theorem tab_8 (v : ByteArray) (four : Bool) (c : AtC) : tab 8 v four c = take8 v c := rfl
theorem tab_9 (v : ByteArray) (four : Bool) (c : AtC) : tab 9 v four c = take9 v c := rfl
theorem tab_10 (v : ByteArray) (four : Bool) (c : AtC) : tab 10 v four c = take10 v c := rfl
theorem tab_16 (v : ByteArray) (four : Bool) (c : AtC) : tab 16 v four c = take16 v c := rfl
theorem tab_32 (v : ByteArray) (four : Bool) (c : AtC) : tab 32 v four c = take32 v c := rfl
theorem decP_ok {four : Bool} {s : ByteArray} {l : List (Int × List Nat)} (h : decP four s = some l) : pathOk l = true := by
  unfold decP at h
  split at h
  · cases h
  · split at h
    · rename_i h2
      injection h with h
      subst h
      exact h2
    · cases h
/-- what a type's value leaves may be, where it is none of the wrong ones -/
theorem tab_keeps {t : Nat} {b wr : Int} {i : Bool} {f : FuncId} (h : rowF t = some (b, wr, i, f)) (v : ByteArray) (four : Bool) (c : AtC) (hc : atOk c = true) : (atOk (tab t v four c).1 = true ∨ (tab t v four c).2 = false ∧ wr = 2) ∧ (wr = 1 ∨ wr = 2) := by
  obtain ⟨h1, h2, h3, h4, h5⟩ := (atOk_iff c).1 hc
  obtain ⟨l1, l2, l3, l4⟩ := (lists_iff c).1 h5
  obtain ⟨s1, s2, s3, s4⟩ := (spare_iff c).1 h4
  have hk := row_known h
  rcases hk with rfl | rfl | rfl | rfl | rfl | rfl | rfl | rfl | rfl | rfl | rfl | rfl
  · obtain ⟨-, rfl, -⟩ : b = 64 ∧ wr = 2 ∧ True := by
      have h' : (64, (2 : Int), _, _) = (b, wr, i, f) := Option.some.inj h
      simp only [Prod.mk.injEq] at h'
      exact ⟨h'.1.symm, h'.2.1.symm, trivial⟩
    refine ⟨?_, .inr rfl⟩
    rw [tab_1]
    unfold take1
    split
    · exact .inl ((atOk_iff _).2 ⟨⟨by show (0 : Int) ≤ (hd v 1 : Nat); omega, by rename_i hq; show ((hd v 1 : Nat) : Int) ≤ 2; omega⟩, h2, h3, h4, h5⟩)
    · exact .inl hc
  · obtain rfl : wr = 2 := by
      have h' : (64, (2 : Int), _, _) = (b, wr, i, f) := Option.some.inj h
      simp only [Prod.mk.injEq] at h'
      exact h'.2.1.symm
    refine ⟨?_, .inr rfl⟩
    rw [tab_2]
    unfold take2
    split
    · exact .inr ⟨rfl, rfl⟩
    · rename_i l hl
      exact .inl ((atOk_iff _).2 ⟨h1, decP_ok hl, h3, h4, h5⟩)
  · obtain rfl : wr = 2 := by
      have h' : (64, (2 : Int), _, _) = (b, wr, i, f) := Option.some.inj h
      simp only [Prod.mk.injEq] at h'
      exact h'.2.1.symm
    refine ⟨?_, .inr rfl⟩
    rw [tab_3]
    unfold take3
    cases hv : v.size == 4
    · exact .inr ⟨rfl, rfl⟩
    · exact .inl ((atOk_iff _).2 ⟨h1, h2, by show nextOk v = true; unfold nextOk; rw [hv]; simp, h4, h5⟩)
  · obtain rfl : wr = 2 := by
      have h' : (128, (2 : Int), _, _) = (b, wr, i, f) := Option.some.inj h
      simp only [Prod.mk.injEq] at h'
      exact h'.2.1.symm
    refine ⟨?_, .inr rfl⟩
    rw [tab_4]
    unfold take4
    split
    · exact .inl ((atOk_iff _).2 ⟨h1, h2, h3, (spare_iff _).2 ⟨.inl rfl, s2, s3, s4⟩, h5⟩)
    · exact .inl hc
  · obtain rfl : wr = 2 := by
      have h' : (64, (2 : Int), _, _) = (b, wr, i, f) := Option.some.inj h
      simp only [Prod.mk.injEq] at h'
      exact h'.2.1.symm
    refine ⟨?_, .inr rfl⟩
    rw [tab_5]
    unfold take5
    split
    · exact .inl ((atOk_iff _).2 ⟨h1, h2, h3, (spare_iff _).2 ⟨s1, .inl rfl, s3, s4⟩, h5⟩)
    · exact .inl hc
  · obtain rfl : wr = 1 := by
      have h' : (64, (1 : Int), _, _) = (b, wr, i, f) := Option.some.inj h
      simp only [Prod.mk.injEq] at h'
      exact h'.2.1.symm
    exact ⟨.inl ((atOk_iff _).2 ⟨h1, h2, h3, h4, h5⟩), .inl rfl⟩
  · obtain rfl : wr = 1 := by
      have h' : (192, (1 : Int), _, _) = (b, wr, i, f) := Option.some.inj h
      simp only [Prod.mk.injEq] at h'
      exact h'.2.1.symm
    refine ⟨?_, .inl rfl⟩
    rw [tab_7]
    unfold take7
    split
    · rename_i hq
      exact .inl ((atOk_iff _).2 ⟨h1, h2, h3, (spare_iff _).2 ⟨s1, s2, s3, .inl hq.2⟩, h5⟩)
    · exact .inl hc
  · obtain rfl : wr = 2 := by
      have h' : (192, (2 : Int), _, _) = (b, wr, i, f) := Option.some.inj h
      simp only [Prod.mk.injEq] at h'
      exact h'.2.1.symm
    refine ⟨?_, .inr rfl⟩
    rw [tab_8]
    unfold take8
    split
    · exact .inr ⟨rfl, rfl⟩
    · rename_i l hl
      exact .inl ((atOk_iff _).2 ⟨h1, h2, h3, h4, (lists_iff _).2 ⟨l1, readC_ok swoN ltN_total hl, l3, l4⟩⟩)
  · obtain rfl : wr = 2 := by
      have h' : (128, (2 : Int), _, _) = (b, wr, i, f) := Option.some.inj h
      simp only [Prod.mk.injEq] at h'
      exact h'.2.1.symm
    refine ⟨?_, .inr rfl⟩
    rw [tab_9]
    unfold take9
    split
    · exact .inl ((atOk_iff _).2 ⟨h1, h2, h3, (spare_iff _).2 ⟨s1, s2, .inl rfl, s4⟩, h5⟩)
    · exact .inl hc
  · obtain rfl : wr = 2 := by
      have h' : (128, (2 : Int), _, _) = (b, wr, i, f) := Option.some.inj h
      simp only [Prod.mk.injEq] at h'
      exact h'.2.1.symm
    refine ⟨?_, .inr rfl⟩
    rw [tab_10]
    unfold take10
    split
    · exact .inl hc
    · rename_i hq
      refine .inl ((atOk_iff _).2 ⟨h1, h2, h3, h4, (lists_iff _).2 ⟨?_, l2, l3, l4⟩⟩)
      show (asN 4 (v.size / 4) v).length ≤ 32
      rw [asN_len]
      omega
  · obtain rfl : wr = 2 := by
      have h' : (192, (2 : Int), _, _) = (b, wr, i, f) := Option.some.inj h
      simp only [Prod.mk.injEq] at h'
      exact h'.2.1.symm
    refine ⟨?_, .inr rfl⟩
    rw [tab_16]
    unfold take16
    split
    · exact .inr ⟨rfl, rfl⟩
    · rename_i l hl
      exact .inl ((atOk_iff _).2 ⟨h1, h2, h3, h4, (lists_iff _).2 ⟨l1, l2, readC_ok swoN ltN_total hl, l4⟩⟩)
  · obtain rfl : wr = 2 := by
      have h' : (192, (2 : Int), _, _) = (b, wr, i, f) := Option.some.inj h
      simp only [Prod.mk.injEq] at h'
      exact h'.2.1.symm
    refine ⟨?_, .inr rfl⟩
    rw [tab_32]
    unfold take32
    split
    · exact .inr ⟨rfl, rfl⟩
    · rename_i l hl
      exact .inl ((atOk_iff _).2 ⟨h1, h2, h3, h4, (lists_iff _).2 ⟨l1, l2, l3, readC_ok swoL ltL_total hl⟩⟩)
/-- what of an external neighbour is never taken -/
def outOk (c : AtC) : Prop := c.hasPref = false ∧ c.hasOrig = false ∧ c.clus = []
theorem tab_out {t : Nat} {b wr : Int} {f : FuncId} (h : rowF t = some (b, wr, false, f)) (v : ByteArray) (four : Bool) (c : AtC) (hc : outOk c) : outOk (tab t v four c).1 := by
  rcases row_known h with rfl | rfl | rfl | rfl | rfl | rfl | rfl | rfl | rfl | rfl | rfl | rfl
  · rw [tab_1]; unfold take1; split <;> exact hc
  · rw [tab_2]; unfold take2; split <;> exact hc
  · exact hc
  · rw [tab_4]; unfold take4; split <;> exact hc
  · have h' : ((64 : Int), (2 : Int), true, _) = (b, wr, false, f) := Option.some.inj h
    simp at h'
  · exact hc
  · rw [tab_7]; unfold take7; split <;> exact hc
  · rw [tab_8]; unfold take8; split <;> exact hc
  · have h' : ((128 : Int), (2 : Int), true, _) = (b, wr, false, f) := Option.some.inj h
    simp at h'
  · have h' : ((128 : Int), (2 : Int), true, _) = (b, wr, false, f) := Option.some.inj h
    simp at h'
  · rw [tab_16]; unfold take16; split <;> exact hc
  · rw [tab_32]; unfold take32; split <;> exact hc
/-- what Read has in hand, judged -/
structure JI (internal : Bool) (c : AtC) (v : Vd) : Prop where
  ok : v.act < 2 → atOk c = true
  a0 : 0 ≤ v.act
  a3 : v.act ≤ 3
  code : v.act = 3 → v.code = 3 ∧ (v.sub = 1 ∨ v.sub = 2)
  none : v.act ≠ 3 → v.code = 0 ∧ v.sub = 0
  out : internal = false → outOk c
theorem JI.judge {internal : Bool} {c c' : AtC} {v : Vd} (h : JI internal c v) (x : Vd) (hx : (x.act = 1 ∨ x.act = 2) ∧ x.code = 0 ∧ x.sub = 0 ∨ x.act = 3 ∧ x.code = 3 ∧ (x.sub = 1 ∨ x.sub = 2)) (hok : v.act < 2 → x.act < 2 → atOk c' = true) (ho : internal = false → outOk c') : JI internal c' (judgeF v x) := by
  unfold judgeF
  split
  · rename_i hlt
    exact ⟨fun h1 => hok (by omega) h1, by omega, by omega, fun e => by omega, fun e => by omega, ho⟩
  · rename_i hge
    exact ⟨fun h1 => hok h1 (by omega), h.a0, h.a3, h.code, h.none, ho⟩
theorem JI.step {four internal : Bool} {met : List UInt8} {c : AtC} {v : Vd} (h : JI internal c v) (x : Rw) : JI internal (readStep tab four internal met c v x).1 (readStep tab four internal met c v x).2 := by
  unfold readStep
  split
  · split
    · exact h.judge ⟨3, 3, 1⟩ (.inr ⟨rfl, rfl, .inl rfl⟩) (fun h1 _ => h.ok h1) h.out
    · exact h
  · split
    · exact h
    · split
      · split
        · exact h.judge ⟨3, 3, 2⟩ (.inr ⟨rfl, rfl, .inr rfl⟩) (fun h1 _ => h.ok h1) h.out
        · exact h
      · rename_i b wr i f hrow
        split
        · exact h.judge ⟨1, 0, 0⟩ (.inl ⟨.inl rfl, rfl, rfl⟩) (fun h1 _ => h.ok h1) h.out
        · rename_i hin
          split
          · exact h.judge ⟨2, 0, 0⟩ (.inl ⟨.inr rfl, rfl, rfl⟩) (fun h1 _ => h.ok h1) h.out
          · have hout : internal = false → outOk (tab x.t.toNat x.v four c).1 := fun e => by
              subst e
              have hi : i = false := by cases i <;> simp at hin ⊢
              subst hi
              exact tab_out hrow _ _ _ (h.out rfl)
            have hk := tab_keeps hrow x.v four c
            split
            · rename_i hT
              exact ⟨fun h1 => ((hk (h.ok h1)).1).elim id (fun q => by rw [hT] at q; cases q.1), h.a0, h.a3, h.code, h.none, hout⟩
            · have hwr : wr = 1 ∨ wr = 2 := by
                rcases row_known hrow with e | e | e | e | e | e | e | e | e | e | e | e
                all_goals
                  rw [e] at hrow
                  have h' := Option.some.inj hrow
                  simp only [Prod.mk.injEq] at h'
                  have := h'.2.1
                  omega
              refine h.judge ⟨wr, 0, 0⟩ (.inl ⟨hwr, rfl, rfl⟩) (fun h1 h2 => ?_) hout
              rcases (hk (h.ok h1)).1 with q | q
              · exact q
              · have : wr < 2 := h2
                omega
theorem JI.all {four internal : Bool} : ∀ (L : List Rw) (met : List UInt8) (c : AtC) (v : Vd), JI internal c v → JI internal (readF tab four internal met c v L).1 (readF tab four internal met c v L).2
  | [], _, _, _, h => h
  | x :: r, met, c, v, h => JI.all r (x.t :: met) _ _ (h.step x)
theorem noC_ok : atOk noC = true := by decide
theorem JI.start (internal : Bool) : JI internal noC ⟨0, 0, 0⟩ := ⟨fun _ => noC_ok, by decide, by decide, fun h => absurd h (by decide), fun _ => ⟨rfl, rfl⟩, fun _ => ⟨rfl, rfl, rfl⟩⟩
end Go.Proofs.YtkcojblflebomaaGreat
set_option linter.unusedVariables false
set_option linter.unusedSimpArgs false
namespace Go.Proofs.YtkcojblflebomaaGreat
open Go.RowKit Go.MapKept Go.Shelf
open Go.Lib hiding intOf
open Go.Sort hiding Below

theorem hd_u64 (v : ByteArray) : hd v 8 < 18446744073709551616 := Nat.lt_of_lt_of_le (hd_lt v 8) (by decide)
set_option maxHeartbeats 4000000 in
theorem cdec_8 (s : ByteArray) (w : World) (hm : (s.size : Int) ≤ 140737488351232) :
    Calls Tryz.prog 83 #[.string s] w fun e w' => RcPost (w.heap.size + 1) 35 1 u1 (readC 4 (fun s => hd s 4) ltN s) w' e ∧ Below w.heap.size w w' := by
  have HC := Lib.hid (cread_u32 s w hm)
  generalize readC 4 (fun s => hd s 4) ltN s = RES at HC ⊢
  go_enter Tryz.func83, Tryz.ntmps83
  go_wp2_with fail
  refine HC.out.mono ?_
  rintro e w1 ⟨hp, hb⟩
  have HB := Lib.hid hb
  clear hb HC
  cases RES with
  | none =>
    obtain ⟨n, rfl, hn⟩ := hp
    go_wp2_with fail
    go_ret2
    exact ⟨⟨n, rfl, hn⟩, HB.out⟩
  | some l =>
    obtain ⟨v, rfl, ho⟩ := hp
    have HO := Lib.hid ho
    clear ho
    go_wp2_with fail
    go_ret2
    exact ⟨⟨v, rfl, HO.out⟩, HB.out⟩
set_option maxHeartbeats 8000000 in
theorem take8s : Takes 82 (fun v _ c => take8 v c) := by
  intro b c v four w h hm
  have HDEC := Lib.hid (cdec_8 v w hm)
  obtain ⟨a, hc, ho, hac⟩ := h.x
  have HC := Lib.hid hc
  have HO := Lib.hid ho
  have HAC := Lib.hid hac
  have hlt := hc.lt
  have HT : Hid (take8 v c = match readC 4 (fun s => hd s 4) ltN v with
    | none => ({ c with comms := [] }, false)
    | some l => ({ c with comms := l }, true)) := rfl
  have HFT : Hid (∀ l, readC 4 (fun s => hd s 4) ltN v = some l → ∀ x ∈ l, (fun n : Nat => n < 4294967296) x) := fun l hl => readC_all (p := (fun n : Nat => n < 4294967296)) (fun s => hd_u32 s) hl
  clear hc ho hac h
  generalize readC 4 (fun s => hd s 4) ltN v = RES at HDEC HT HFT
  show Calls _ _ _ _ fun e w' => e = .returned (.bool (take8 v c).2) ∧ AtVar w' b (take8 v c).1 ∧ Tk w w' b
  generalize take8 v c = res at HT ⊢
  go_enter Tryz.func82, Tryz.ntmps82
  go_wp2_with fail
  refine HDEC.out.mono ?_
  rintro e w1 ⟨hpost, hb⟩
  have HC1 : Hid (CellsAt w1 b a.ar 40) := HC.out.below hb hlt
  have HO1 : Hid (AtO w1 (b + 1) a) := HO.out.below hb
  have HB1 := Lib.hid hb
  obtain ⟨c0, c1, c2, c3, c4, c5, c6, c7, c8, c9, c10, c11, c12, c13, c14, c15⟩ := atr_cells HC1.out
  have cf := HC1.out.unfrozen 10
  clear c0 c1 c2 c3 c4 c5 c6 c7 c8 c9 c11 c12 c13 c14 c15
  clear hb HDEC
  cases RES with
  | none =>
    obtain ⟨n, rfl, hn⟩ := hpost
    have hn0 : (n == 0) = false := beq_eq_false_iff_ne.2 (by omega)
    clear hn
    go_wp2_with fail
    go_ret
    refine ⟨by rw [HT.out]; rfl, ?_, Tk.below_set _ HB1.out hlt⟩
    rw [HT.out]
    exact ⟨⟨{ a with mA := none, comms := [], mC := 0 }, HC1.out.setAt 10 _, { HO1.out.setc with comms := OwnL.nil _ _ _ _ _, mfit := fun x hx => by cases hx }, ⟨by rw [← HAC.out.1]; rfl, HAC.out.2⟩⟩⟩
  | some l =>
    obtain ⟨pv, rfl, hso⟩ := hpost
    obtain ⟨A, cc, rfl⟩ := hso.form
    have HSG : Hid (OwnL w1 (b + 1) 35 1 u1 (.slice A l.length cc) l) := OwnM.lower hso (by omega)
    clear hso
    go_wp2_with fail
    go_ret
    refine ⟨by rw [HT.out]; rfl, ?_, Tk.below_set _ HB1.out hlt⟩
    rw [HT.out]
    exact ⟨⟨{ a with mA := A, comms := l, mC := cc }, HC1.out.setAt 10 _, { HO1.out.setc with comms := HSG.out.keep (fun k h1 _ => Below.heap_setCell w1 _ _ k (by show k ≠ b; omega)), mfit := HFT.out l rfl }, ⟨by rw [← HAC.out.1]; rfl, HAC.out.2⟩⟩⟩
set_option maxHeartbeats 4000000 in
theorem cdec_16 (s : ByteArray) (w : World) (hm : (s.size : Int) ≤ 140737488351232) :
    Calls Tryz.prog 87 #[.string s] w fun e w' => RcPost (w.heap.size + 1) 57 1 x1 (readC 8 (fun s => hd s 8) ltN s) w' e ∧ Below w.heap.size w w' := by
  have HC := Lib.hid (cread_u64 s w hm)
  generalize readC 8 (fun s => hd s 8) ltN s = RES at HC ⊢
  go_enter Tryz.func87, Tryz.ntmps87
  go_wp2_with fail
  refine HC.out.mono ?_
  rintro e w1 ⟨hp, hb⟩
  have HB := Lib.hid hb
  clear hb HC
  cases RES with
  | none =>
    obtain ⟨n, rfl, hn⟩ := hp
    go_wp2_with fail
    go_ret2
    exact ⟨⟨n, rfl, hn⟩, HB.out⟩
  | some l =>
    obtain ⟨v, rfl, ho⟩ := hp
    have HO := Lib.hid ho
    clear ho
    go_wp2_with fail
    go_ret2
    exact ⟨⟨v, rfl, HO.out⟩, HB.out⟩
set_option maxHeartbeats 8000000 in
theorem take16s : Takes 86 (fun v _ c => take16 v c) := by
  intro b c v four w h hm
  have HDEC := Lib.hid (cdec_16 v w hm)
  obtain ⟨a, hc, ho, hac⟩ := h.x
  have HC := Lib.hid hc
  have HO := Lib.hid ho
  have HAC := Lib.hid hac
  have hlt := hc.lt
  have HT : Hid (take16 v c = match readC 8 (fun s => hd s 8) ltN v with
    | none => ({ c with exts := [] }, false)
    | some l => ({ c with exts := l }, true)) := rfl
  have HFT : Hid (∀ l, readC 8 (fun s => hd s 8) ltN v = some l → ∀ x ∈ l, (fun n : Nat => n < 18446744073709551616) x) := fun l hl => readC_all (p := (fun n : Nat => n < 18446744073709551616)) (fun s => hd_u64 s) hl
  clear hc ho hac h
  generalize readC 8 (fun s => hd s 8) ltN v = RES at HDEC HT HFT
  show Calls _ _ _ _ fun e w' => e = .returned (.bool (take16 v c).2) ∧ AtVar w' b (take16 v c).1 ∧ Tk w w' b
  generalize take16 v c = res at HT ⊢
  go_enter Tryz.func86, Tryz.ntmps86
  go_wp2_with fail
  refine HDEC.out.mono ?_
  rintro e w1 ⟨hpost, hb⟩
  have HC1 : Hid (CellsAt w1 b a.ar 40) := HC.out.below hb hlt
  have HO1 : Hid (AtO w1 (b + 1) a) := HO.out.below hb
  have HB1 := Lib.hid hb
  obtain ⟨c0, c1, c2, c3, c4, c5, c6, c7, c8, c9, c10, c11, c12, c13, c14, c15⟩ := atr_cells HC1.out
  have cf := HC1.out.unfrozen 11
  clear c0 c1 c2 c3 c4 c5 c6 c7 c8 c9 c10 c12 c13 c14 c15
  clear hb HDEC
  cases RES with
  | none =>
    obtain ⟨n, rfl, hn⟩ := hpost
    have hn0 : (n == 0) = false := beq_eq_false_iff_ne.2 (by omega)
    clear hn
    go_wp2_with fail
    go_ret
    refine ⟨by rw [HT.out]; rfl, ?_, Tk.below_set _ HB1.out hlt⟩
    rw [HT.out]
    exact ⟨⟨{ a with xA := none, exts := [], xC := 0 }, HC1.out.setAt 11 _, { HO1.out.setc with exts := OwnL.nil _ _ _ _ _, xfit := fun x hx => by cases hx }, ⟨by rw [← HAC.out.1]; rfl, HAC.out.2⟩⟩⟩
  | some l =>
    obtain ⟨pv, rfl, hso⟩ := hpost
    obtain ⟨A, cc, rfl⟩ := hso.form
    have HSG : Hid (OwnL w1 (b + 1) 57 1 x1 (.slice A l.length cc) l) := OwnM.lower hso (by omega)
    clear hso
    go_wp2_with fail
    go_ret
    refine ⟨by rw [HT.out]; rfl, ?_, Tk.below_set _ HB1.out hlt⟩
    rw [HT.out]
    exact ⟨⟨{ a with xA := A, exts := l, xC := cc }, HC1.out.setAt 11 _, { HO1.out.setc with exts := HSG.out.keep (fun k h1 _ => Below.heap_setCell w1 _ _ k (by show k ≠ b; omega)), xfit := HFT.out l rfl }, ⟨by rw [← HAC.out.1]; rfl, HAC.out.2⟩⟩⟩
set_option maxHeartbeats 4000000 in
theorem cdec_32 (s : ByteArray) (w : World) (hm : (s.size : Int) ≤ 140737488351232) :
    Calls Tryz.prog 89 #[.string s] w fun e w' => RcPost (w.heap.size + 1) 59 3 Lg.cs (readC 12 lg12 ltL s) w' e ∧ Below w.heap.size w w' := by
  have HC := Lib.hid (cread_L s w hm)
  generalize readC 12 lg12 ltL s = RES at HC ⊢
  go_enter Tryz.func89, Tryz.ntmps89
  go_wp2_with fail
  refine HC.out.mono ?_
  rintro e w1 ⟨hp, hb⟩
  have HB := Lib.hid hb
  clear hb HC
  cases RES with
  | none =>
    obtain ⟨n, rfl, hn⟩ := hp
    go_wp2_with fail
    go_ret2
    exact ⟨⟨n, rfl, hn⟩, HB.out⟩
  | some l =>
    obtain ⟨v, rfl, ho⟩ := hp
    have HO := Lib.hid ho
    clear ho
    go_wp2_with fail
    go_ret2
    exact ⟨⟨v, rfl, HO.out⟩, HB.out⟩
set_option maxHeartbeats 8000000 in
theorem take32s : Takes 88 (fun v _ c => take32 v c) := by
  intro b c v four w h hm
  have HDEC := Lib.hid (cdec_32 v w hm)
  obtain ⟨a, hc, ho, hac⟩ := h.x
  have HC := Lib.hid hc
  have HO := Lib.hid ho
  have HAC := Lib.hid hac
  have hlt := hc.lt
  have HT : Hid (take32 v c = match readC 12 lg12 ltL v with
    | none => ({ c with larges := [] }, false)
    | some l => ({ c with larges := l }, true)) := rfl
  have HFT : Hid (∀ l, readC 12 lg12 ltL v = some l → ∀ x ∈ l, (fun x : Lg => x.g < 4294967296 ∧ x.a < 4294967296 ∧ x.b < 4294967296) x) := fun l hl => readC_all (p := (fun x : Lg => x.g < 4294967296 ∧ x.a < 4294967296 ∧ x.b < 4294967296)) (fun s => ⟨hd_u32 _, hd_u32 _, hd_u32 _⟩) hl
  clear hc ho hac h
  generalize readC 12 lg12 ltL v = RES at HDEC HT HFT
  show Calls _ _ _ _ fun e w' => e = .returned (.bool (take32 v c).2) ∧ AtVar w' b (take32 v c).1 ∧ Tk w w' b
  generalize take32 v c = res at HT ⊢
  go_enter Tryz.func88, Tryz.ntmps88
  go_wp2_with fail
  refine HDEC.out.mono ?_
  rintro e w1 ⟨hpost, hb⟩
  have HC1 : Hid (CellsAt w1 b a.ar 40) := HC.out.below hb hlt
  have HO1 : Hid (AtO w1 (b + 1) a) := HO.out.below hb
  have HB1 := Lib.hid hb
  obtain ⟨c0, c1, c2, c3, c4, c5, c6, c7, c8, c9, c10, c11, c12, c13, c14, c15⟩ := atr_cells HC1.out
  have cf := HC1.out.unfrozen 12
  clear c0 c1 c2 c3 c4 c5 c6 c7 c8 c9 c10 c11 c13 c14 c15
  clear hb HDEC
  cases RES with
  | none =>
    obtain ⟨n, rfl, hn⟩ := hpost
    have hn0 : (n == 0) = false := beq_eq_false_iff_ne.2 (by omega)
    clear hn
    go_wp2_with fail
    go_ret
    refine ⟨by rw [HT.out]; rfl, ?_, Tk.below_set _ HB1.out hlt⟩
    rw [HT.out]
    exact ⟨⟨{ a with lA := none, larges := [], lC := 0 }, HC1.out.setAt 12 _, { HO1.out.setc with larges := OwnL.nil _ _ _ _ _, lfit := fun x hx => by cases hx }, ⟨by rw [← HAC.out.1]; rfl, HAC.out.2⟩⟩⟩
  | some l =>
    obtain ⟨pv, rfl, hso⟩ := hpost
    obtain ⟨A, cc, rfl⟩ := hso.form
    have HSG : Hid (OwnL w1 (b + 1) 59 3 Lg.cs (.slice A l.length cc) l) := OwnM.lower hso (by omega)
    clear hso
    go_wp2_with fail
    go_ret
    refine ⟨by rw [HT.out]; rfl, ?_, Tk.below_set _ HB1.out hlt⟩
    rw [HT.out]
    exact ⟨⟨{ a with lA := A, larges := l, lC := cc }, HC1.out.setAt 12 _, { HO1.out.setc with larges := HSG.out.keep (fun k h1 _ => Below.heap_setCell w1 _ _ k (by show k ≠ b; omega)), lfit := HFT.out l rfl }, ⟨by rw [← HAC.out.1]; rfl, HAC.out.2⟩⟩⟩
theorem row_is {t : Nat} {b wr b' wr' : Int} {i i' : Bool} {f f' : FuncId} (h : rowF t = some (b, wr, i, f)) (h' : rowF t = some (b', wr', i', f')) : f = f' := by
  rw [h] at h'
  injection h' with h'
  simp only [Prod.mk.injEq] at h'
  exact h'.2.2.2
/-- each type is taken so -/
theorem tab_takes (n : Nat) (b wr : Int) (i : Bool) (f : FuncId) (h : rowF n = some (b, wr, i, f)) : TakesT tab n f := by
  have hk := row_known h
  unfold TakesT
  rcases hk with rfl | rfl | rfl | rfl | rfl | rfl | rfl | rfl | rfl | rfl | rfl | rfl
  · rw [if_neg (by decide), row_is h (show rowF 1 = some (_, _, _, _) from rfl)]
    exact ⟨takes1, fun v four c => by show (take1 v c).1.clus = c.clus; unfold take1; split <;> rfl⟩
  · rw [if_neg (by decide), row_is h (show rowF 2 = some (_, _, _, _) from rfl)]
    exact ⟨takes2, fun v four c => by show (take2 v four c).1.clus = c.clus; unfold take2; split <;> rfl⟩
  · rw [if_neg (by decide), row_is h (show rowF 3 = some (_, _, _, _) from rfl)]
    exact ⟨takes3, fun v four c => rfl⟩
  · rw [if_neg (by decide), row_is h (show rowF 4 = some (_, _, _, _) from rfl)]
    exact ⟨take4s, fun v four c => by show (take4 v c).1.clus = c.clus; unfold take4; split <;> rfl⟩
  · rw [if_neg (by decide), row_is h (show rowF 5 = some (_, _, _, _) from rfl)]
    exact ⟨take5s, fun v four c => by show (take5 v c).1.clus = c.clus; unfold take5; split <;> rfl⟩
  · rw [if_neg (by decide), row_is h (show rowF 6 = some (_, _, _, _) from rfl)]
    exact ⟨take6s, fun v four c => rfl⟩
  · rw [if_neg (by decide), row_is h (show rowF 7 = some (_, _, _, _) from rfl)]
    exact ⟨take7s, fun v four c => by show (take7 v four c).1.clus = c.clus; unfold take7; split <;> rfl⟩
  · rw [if_neg (by decide), row_is h (show rowF 8 = some (_, _, _, _) from rfl)]
    exact ⟨take8s, fun v four c => by show (take8 v c).1.clus = c.clus; unfold take8; split <;> rfl⟩
  · rw [if_neg (by decide), row_is h (show rowF 9 = some (_, _, _, _) from rfl)]
    exact ⟨take9s, fun v four c => by show (take9 v c).1.clus = c.clus; unfold take9; split <;> rfl⟩
  · rw [if_pos rfl, row_is h (show rowF 10 = some (_, _, _, _) from rfl)]
    exact take10s
  · rw [if_neg (by decide), row_is h (show rowF 16 = some (_, _, _, _) from rfl)]
    exact ⟨take16s, fun v four c => by show (take16 v c).1.clus = c.clus; unfold take16; split <;> rfl⟩
  · rw [if_neg (by decide), row_is h (show rowF 32 = some (_, _, _, _) from rfl)]
    exact ⟨take32s, fun v four c => by show (take32 v c).1.clus = c.clus; unfold take32; split <;> rfl⟩
end Go.Proofs.YtkcojblflebomaaGreat
set_option linter.unusedVariables false
set_option linter.unusedSimpArgs false
namespace Go.Proofs.YtkcojblflebomaaGreat
open Go.RowKit Go.MapKept Go.Shelf
open Go.Lib hiding intOf

/-- a raw attribute as it comes back -/
def normR (r : Rw) : Rw := ⟨if 255 < r.v.size then set8 r.f else clr8 r.f, r.t, r.v⟩
theorem bit_set (f : UInt8) : bit8 (set8 f).toNat = true := by
  have h : ∀ x : Fin 256, bit8 (set8 (UInt8.ofNat x.val)).toNat = true := by decide +kernel
  have := h ⟨f.toNat, f.toNat_lt⟩
  simpa using this
theorem bit_clr (f : UInt8) : bit8 (clr8 f).toNat = false := by
  have h : ∀ x : Fin 256, bit8 (clr8 (UInt8.ofNat x.val)).toNat = false := by decide +kernel
  have := h ⟨f.toNat, f.toNat_lt⟩
  simpa using this
theorem clr_set (f : UInt8) : clr8 (set8 f) = clr8 f := by
  have h : ∀ x : Fin 256, clr8 (set8 (UInt8.ofNat x.val)) = clr8 (UInt8.ofNat x.val) := by decide +kernel
  have := h ⟨f.toNat, f.toNat_lt⟩
  simpa using this
theorem clr_clr (f : UInt8) : clr8 (clr8 f) = clr8 f := by
  have h : ∀ x : Fin 256, clr8 (clr8 (UInt8.ofNat x.val)) = clr8 (UInt8.ofNat x.val) := by decide +kernel
  have := h ⟨f.toNat, f.toNat_lt⟩
  simpa using this
theorem bts_at (l : List UInt8) (i : Nat) (h : i < (bts l).size) : (bts l)[i] = l[i]'(by rw [← bts_size l]; exact h) := by
  show (bts l).data[i] = _
  exact List.getElem_toArray h
theorem bts_ext (l : List UInt8) (a b : Nat) : (bts l).extract a b = bts ((l.drop a).take (b - a)) := bytes_ext (by rw [ext_list, bts_list, bts_list])
theorem two_val (n : Nat) (h : n < 65536) : beVal [UInt8.ofNat (n / 256), UInt8.ofNat n] = n := by
  simp [beVal]
  omega
theorem one_val (n : Nat) (h : n < 256) : beVal [UInt8.ofNat n] = n := by
  simp [beVal]
  omega
theorem step_raw (r : Rw) (R : List UInt8) (h : r.v.size < 65536) : splitStep (bts (rawB r ++ R)) = some (normR r, bts R) := by
  have hv : r.v.data.toList.length = r.v.size := rfl
  by_cases hl : 255 < r.v.size
  · have hb : rawB r ++ R = set8 r.f :: r.t :: UInt8.ofNat (r.v.size / 256) :: UInt8.ofNat r.v.size :: (r.v.data.toList ++ R) := by rw [rawB_long hl]; simp
    rw [hb]
    have hsz : (bts (set8 r.f :: r.t :: UInt8.ofNat (r.v.size / 256) :: UInt8.ofNat r.v.size :: (r.v.data.toList ++ R))).size = 4 + r.v.size + R.length := by
      rw [bts_size]
      simp [hv]
      omega
    rw [split_flat (sz := 2) (n := r.v.size) (by omega) (by rw [hd_byte0 _ (by omega), bts_at]; show lenSize (set8 r.f).toNat = 2; unfold lenSize; rw [bit_set]; rfl) (by omega) (by
      rw [bts_ext, bts_list]
      exact (two_val _ h).symm), if_neg (by omega)]
    simp only [Option.some.injEq, Prod.mk.injEq]
    refine ⟨?_, ?_⟩
    · unfold normR
      rw [if_pos hl]
      refine Rw.eq_iff.1 ⟨?_, ?_, ?_⟩
      · show (bts _)[0] = _
        rw [bts_at]
        rfl
      · show (bts _)[1] = _
        rw [bts_at]
        rfl
      · show (bts _).extract _ _ = r.v
        rw [bts_ext]
        rw [show 2 + 2 + r.v.size - (2 + 2) = r.v.size by omega]
        show bts ((r.v.data.toList ++ R).take r.v.size) = r.v
        rw [List.take_append_of_le_length (Nat.le_of_eq hv.symm), List.take_of_length_le (Nat.le_of_eq hv), bts_self]
    · rw [hsz, bts_ext]
      congr 1
      rw [show 4 + r.v.size + R.length - (2 + 2 + r.v.size) = R.length by omega, show 2 + 2 + r.v.size = r.v.size + 4 by omega]
      show ((r.v.data.toList ++ R).drop r.v.size).take R.length = R
      rw [← hv, List.drop_left, List.take_length]
  · have hb : rawB r ++ R = clr8 r.f :: r.t :: UInt8.ofNat r.v.size :: (r.v.data.toList ++ R) := by rw [rawB_short hl]; simp
    rw [hb]
    have hsz : (bts (clr8 r.f :: r.t :: UInt8.ofNat r.v.size :: (r.v.data.toList ++ R))).size = 3 + r.v.size + R.length := by
      rw [bts_size]
      simp [hv]
      omega
    rw [split_flat (sz := 1) (n := r.v.size) (by omega) (by rw [hd_byte0 _ (by omega), bts_at]; show lenSize (clr8 r.f).toNat = 1; unfold lenSize; rw [bit_clr]; rfl) (by omega) (by
      rw [bts_ext, bts_list]
      exact (one_val _ (by omega)).symm), if_neg (by omega)]
    simp only [Option.some.injEq, Prod.mk.injEq]
    refine ⟨?_, ?_⟩
    · unfold normR
      rw [if_neg hl]
      refine Rw.eq_iff.1 ⟨?_, ?_, ?_⟩
      · show (bts _)[0] = _
        rw [bts_at]
        rfl
      · show (bts _)[1] = _
        rw [bts_at]
        rfl
      · show (bts _).extract _ _ = r.v
        rw [bts_ext]
        rw [show 2 + 1 + r.v.size - (2 + 1) = r.v.size by omega]
        show bts ((r.v.data.toList ++ R).take r.v.size) = r.v
        rw [List.take_append_of_le_length (Nat.le_of_eq hv.symm), List.take_of_length_le (Nat.le_of_eq hv), bts_self]
    · rw [hsz, bts_ext]
      congr 1
      rw [show 3 + r.v.size + R.length - (2 + 1 + r.v.size) = R.length by omega, show 2 + 1 + r.v.size = r.v.size + 3 by omega]
      show ((r.v.data.toList ++ R).drop r.v.size).take R.length = R
      rw [← hv, List.drop_left, List.take_length]
theorem rawB_pos (r : Rw) : 3 ≤ (rawB r).length := by
  by_cases hl : 255 < r.v.size
  · rw [rawB_long hl]; simp
  · rw [rawB_short hl]; simp
theorem rawB_len (r : Rw) : r.v.size + 3 ≤ (rawB r).length := by
  have hv : r.v.data.toList.length = r.v.size := rfl
  by_cases hl : 255 < r.v.size
  · rw [rawB_long hl, List.length_append, hv]; simp; omega
  · rw [rawB_short hl, List.length_append, hv]; simp; omega
theorem split_lays : ∀ (L : List Rw) (R : List UInt8), (∀ r ∈ L, r.v.size < 65536) → splitA (bts (laysB L ++ R)) = (splitA (bts R)).map (L.map normR ++ ·)
  | [], R, _ => by simp [laysB]
  | r :: L, R, h => by
    have e : laysB (r :: L) ++ R = rawB r ++ (laysB L ++ R) := by simp [laysB]
    rw [e, splitA_step (by rw [bts_size, List.length_append]; have := rawB_pos r; omega) (step_raw r _ (h r (List.mem_cons_self ..))), split_lays L R (fun q hq => h q (List.mem_cons_of_mem _ hq)), Option.map_map]
    congr 1
theorem lays_each {L : List Rw} (h : (laysB L).length ≤ 4077) : ∀ r ∈ L, r.v.size < 65536 := by
  intro r hr
  have h1 : (rawB r).length ≤ (laysB L).length := by
    unfold laysB
    induction L with
    | nil => cases hr
    | cons q M ih =>
      rw [List.flatMap_cons, List.length_append]
      rcases List.mem_cons.1 hr with rfl | hr
      · omega
      · have := ih (by have h2 : (laysB (q :: M)).length = (rawB q).length + (laysB M).length := by unfold laysB; rw [List.flatMap_cons, List.length_append]
                       omega) hr
        omega
  have := rawB_len r
  omega
theorem split_back {L : List Rw} (h : (laysB L).length ≤ 4077) : splitA (bts (laysB L)) = some (L.map normR) := by
  have h2 := split_lays L [] (lays_each h)
  have h3 : splitA (bts []) = some [] := splitA_end (by rw [bts_size]; rfl)
  rw [List.append_nil, h3] at h2
  simpa using h2
theorem split_more {L : List Rw} (h : (laysB L).length ≤ 4077) : splitA (bts (laysB L) ++ ⟨#[64]⟩) = none := by
  rw [show (⟨#[64]⟩ : ByteArray) = bts [64] from rfl, bts_app, split_lays L [64] (lays_each h), splitA_no (by rw [bts_size]; decide) (split_tiny (by rw [bts_size]; decide))]
  rfl
end Go.Proofs.YtkcojblflebomaaGreat
set_option linter.unusedVariables false
set_option linter.unusedSimpArgs false
namespace Go.Proofs.YtkcojblflebomaaGreat
open Go.RowKit Go.MapKept Go.Shelf
open Go.Lib hiding intOf

theorem beVal_part (v size : Nat) (h : v < 256 ^ size) : ∀ k, k ≤ size → beVal (beB v size k) = v / 256 ^ (size - k)
  | 0, _ => by
    show 0 = _
    rw [Nat.sub_zero, Nat.div_eq_of_lt h]
  | k + 1, hk => by
    rw [beB_succ, beVal_snoc, beVal_part v size h k (by omega), UInt8.toNat_ofNat']
    have e1 : size - k = (size - (k + 1)) + 1 := by omega
    have e2 : (2 : Nat) ^ (8 * (size - 1 - k)) = 256 ^ (size - (k + 1)) := by
      rw [show (256 : Nat) = 2 ^ 8 from rfl, ← Nat.pow_mul, show size - (k + 1) = size - 1 - k by omega]
    rw [e1, e2, Nat.pow_succ, ← Nat.div_div_eq_div_mul]
    generalize v / 256 ^ (size - (k + 1)) = q
    omega
theorem beVal_beB (v k : Nat) (h : v < 256 ^ k) : beVal (beB v k k) = v := by
  rw [beVal_part v k h k (Nat.le_refl _), Nat.sub_self, Nat.pow_zero, Nat.div_one]
theorem hd_cat (v k : Nat) (R : List UInt8) (h : v < 256 ^ k) : hd (bts (beB v k k ++ R)) k = v := by
  unfold hd
  rw [bts_list, List.take_append_of_le_length (by rw [beB_len]; exact Nat.le_refl _), List.take_of_length_le (by rw [beB_len]; exact Nat.le_refl _), beVal_beB v k h]
theorem nx_cat (l R : List UInt8) (k : Nat) (h : l.length = k) : nx (bts (l ++ R)) k = bts R := bytes_ext (by rw [nx_list, bts_list, bts_list, ← h, List.drop_left])
theorem asN_words : ∀ (l : List Nat) (R : List UInt8), (∀ n ∈ l, n < 4294967296) → asN 4 l.length (bts (wordsB l ++ R)) = l ∧ nxN 4 l.length (bts (wordsB l ++ R)) = bts R
  | [], R, _ => ⟨rfl, by simp [wordsB]; rfl⟩
  | n :: r, R, h => by
    have e : wordsB (n :: r) ++ R = beB n 4 4 ++ (wordsB r ++ R) := by simp [wordsB]
    have ih := asN_words r R (fun m hm => h m (List.mem_cons_of_mem _ hm))
    have h1 : hd (bts (beB n 4 4 ++ (wordsB r ++ R))) 4 = n := hd_cat n 4 _ (Nat.lt_of_lt_of_le (h n (List.mem_cons_self ..)) (by decide))
    have h2 : nx (bts (beB n 4 4 ++ (wordsB r ++ R))) 4 = bts (wordsB r ++ R) := nx_cat _ _ 4 (beB_len ..)
    rw [e]
    refine ⟨?_, ?_⟩
    · show hd _ 4 :: asN 4 r.length (nx _ 4) = _
      rw [h1, h2, ih.1]
    · show nxN 4 r.length (nx _ 4) = _
      rw [h2, ih.2]
theorem as_words (l : List Nat) : l.flatMap (asB true) = wordsB l := by
  unfold wordsB
  congr 1
theorem pd_seg (s : Int × List Nat) (R : List UInt8) (hs : segOk s = true) (hf : ∀ n ∈ s.2, n < 4294967296) : pdStep 4 (bts (segB true s ++ R)) = some (s, bts R) := by
  obtain ⟨h1, h2, h3, h4⟩ := segOk_parts hs
  have e : segB true s ++ R = beB s.1.toNat 1 1 ++ (beB s.2.length 1 1 ++ (wordsB s.2 ++ R)) := by
    unfold segB
    rw [as_words]
    simp [List.append_assoc]
  have hk : s.1.toNat < 256 ^ 1 := by omega
  have hl : s.2.length < 256 ^ 1 := by omega
  have a1 := hd_cat s.1.toNat 1 (beB s.2.length 1 1 ++ (wordsB s.2 ++ R)) hk
  have a2 : nx (bts (beB s.1.toNat 1 1 ++ (beB s.2.length 1 1 ++ (wordsB s.2 ++ R)))) 1 = bts (beB s.2.length 1 1 ++ (wordsB s.2 ++ R)) := nx_cat _ _ 1 (beB_len ..)
  have a3 := hd_cat s.2.length 1 (wordsB s.2 ++ R) hl
  have a4 : nx (bts (beB s.2.length 1 1 ++ (wordsB s.2 ++ R))) 1 = bts (wordsB s.2 ++ R) := nx_cat _ _ 1 (beB_len ..)
  have a5 := asN_words s.2 R hf
  have a6 : (bts (wordsB s.2 ++ R)).size = 4 * s.2.length + R.length := by rw [bts_size, List.length_append, words_len]
  have a7 : (bts (beB s.1.toNat 1 1 ++ (beB s.2.length 1 1 ++ (wordsB s.2 ++ R)))).size = 2 + (4 * s.2.length + R.length) := by
    rw [bts_size, List.length_append, List.length_append, List.length_append, beB_len, beB_len, words_len]
    omega
  rw [e]
  unfold pdStep
  rw [if_neg (by omega), a2, a3, a4, a6, if_neg (by omega), a1, a5.1, a5.2]
  have a8 : ((s.1.toNat : Nat) : Int) = s.1 := Int.toNat_of_nonneg (by omega)
  rw [a8]
theorem pd_path : ∀ (l : List (Int × List Nat)) (R : List UInt8), (∀ s ∈ l, segOk s = true) → (∀ s ∈ l, ∀ n ∈ s.2, n < 4294967296) → pdA 4 (bts (pathB true l ++ R)) = (pdA 4 (bts R)).map (l ++ ·)
  | [], R, _, _ => by simp [pathB]
  | s :: r, R, h, hf => by
    have e : pathB true (s :: r) ++ R = segB true s ++ (pathB true r ++ R) := by simp [pathB]
    have hsz : 0 < (bts (segB true s ++ (pathB true r ++ R))).size := by
      rw [bts_size, List.length_append]
      unfold segB
      rw [List.length_append, List.length_append, beB_len]
      omega
    rw [e, pdA_step hsz (pd_seg s _ (h s (List.mem_cons_self ..)) (hf s (List.mem_cons_self ..))), pd_path r R (fun q hq => h q (List.mem_cons_of_mem _ hq)) (fun q hq => hf q (List.mem_cons_of_mem _ hq)), Option.map_map]
    congr 1
theorem dec_path (l : List (Int × List Nat)) (h : pathOk l = true) (hf : ∀ s ∈ l, ∀ n ∈ s.2, n < 4294967296) : decP true (bts (pathB true l)) = some l := by
  have h1 := pd_path l [] (pathOk_parts h).2 hf
  have h2 : pdA 4 (bts []) = some [] := pdA_end (by rw [bts_size]; rfl)
  rw [List.append_nil, h2] at h1
  have h3 : pdA 4 (bts (pathB true l)) = some l := by simpa using h1
  unfold decP
  show (match pdA 4 (bts (pathB true l)) with
    | none => none
    | some l => if pathOk l = true then some l else none) = some l
  rw [h3]
  exact if_pos h
end Go.Proofs.YtkcojblflebomaaGreat
set_option linter.unusedVariables false
set_option linter.unusedSimpArgs false
namespace Go.Proofs.YtkcojblflebomaaGreat
open Go.RowKit Go.MapKept Go.Shelf
open Go.Lib hiding intOf

set_option maxRecDepth 100000 in
set_option maxHeartbeats 4000000 in
theorem write_bad (a : Atr) (four : Bool) (w : World) (h : AtrOk w a) (hno : atOk a.c = false) :
    Calls Tryz.prog 25 #[.agg a.ar, .bool four] w fun e w' => e = .returned (.tuple #[.slice none 0 0, .int .i64 2]) ∧ Below w.heap.size w w' := by
  have HA := Lib.hid h
  have HCK : Hid (∀ W, AtrOk W a → Calls Tryz.prog 26 #[.agg a.ar] W fun e w' => e = .returned (.int .i64 2) ∧ Below W.heap.size W w') := fun W h => by
    have h2 := check_any a W h
    rwa [hno] at h2
  clear h hno
  obtain ⟨V, hV⟩ : ∃ V, V = w.alloc (.cells a.ar 40) := ⟨_, rfl⟩
  have HC : Hid (CellsAt V w.heap.size a.ar 40) := by rw [hV]; exact CellsAt.new _ _ _
  have HB : Hid (Below w.heap.size w V) := by rw [hV]; exact (Below.refl _ _).alloc (Nat.le_refl _) _
  go_enter Tryz.func25, Tryz.ntmps25
  go_upto_region 1 with fail
  rw [← hV]
  clear hV
  go_wp2_with (with_reducible show wpList _ _ _ (_ :: _) _ _; refine wpList_load_attrs rfl (.tmp 2) rfl w.heap.size rfl a HC.out ?_)
  refine (HCK.out _ (HA.out.below HB.out (Nat.le_refl _))).mono ?_
  rintro e V1 ⟨rfl, hb⟩
  have HB1 : Hid (Below w.heap.size w V1) := HB.out.trans (hb.mono HB.out.size)
  clear hb HB HC
  go_wp2_with fail
  go_ret2
  exact ⟨rfl, HB1.out⟩
theorem bts_fits {l : List UInt8} {n : Nat} (h : l.length ≤ n) : (bts l).size ≤ n := by rw [bts_size]; exact h
theorem optR_fits {is : Bool} {f t : UInt8} {v : ByteArray} {n : Nat} (h : v.size ≤ n) : ∀ r ∈ optR is f t v, r.v.size ≤ n := fun r hr => by
  unfold optR at hr
  split at hr
  · rw [List.mem_singleton.1 hr]; exact h
  · cases hr
theorem as_len (four : Bool) : ∀ l : List Nat, (l.flatMap (asB four)).length ≤ 4 * l.length
  | [] => by simp
  | n :: r => by
    rw [List.flatMap_cons, List.length_append, List.length_cons]
    have h1 : (asB four n).length ≤ 4 := by
      unfold asB
      split
      · rw [beB_len]; exact Nat.le_refl _
      · split
        · rw [beB_len]; omega
        · rw [beB_len]; omega
    have h2 := as_len four r
    omega
theorem path_len (four : Bool) : ∀ l : List (Int × List Nat), (∀ s ∈ l, segOk s = true) → (pathB four l).length ≤ 1022 * l.length
  | [], _ => by simp [pathB]
  | s :: r, h => by
    show (segB four s ++ pathB four r).length ≤ _
    rw [List.length_append, List.length_cons]
    have h1 := path_len four r (fun q hq => h q (List.mem_cons_of_mem _ hq))
    have h2 := segOk_parts (h s (List.mem_cons_self ..))
    have h3 : (segB four s).length ≤ 1022 := by
      unfold segB
      rw [List.length_append, List.length_append, beB_len, beB_len]
      have := as_len four s.2
      omega
    omega
theorem writeF_fits {c : AtC} (four : Bool) (h : atOk c = true) : ∀ r ∈ writeF c four, r.v.size ≤ 20000 := by
  have hp := pathOk_parts (atOk_path h).1
  have hk := (atOk_path h).2.2.2
  have hq := path_len four c.path hp.2
  unfold atOk at h
  simp only [Bool.and_eq_true] at h
  have hn := h.1.1.2
  have hL := h.2
  unfold listsOk at hL
  simp only [Bool.and_eq_true, decide_eq_true_eq] at hL
  obtain ⟨⟨⟨_, _, hm⟩, _, hx⟩, _, hl⟩ := hL
  have hns : c.next.size ≤ 16 := by
    unfold nextOk at hn
    simp only [Bool.or_eq_true, beq_iff_eq] at hn
    omega
  intro r hr
  unfold writeF W1 W2 W3 W4 at hr
  simp only [List.mem_append] at hr
  have b1 := beB_len c.origin.toNat 1 1
  have b2 := beB_len c.med 4 4
  have b3 := beB_len c.pref 4 4
  have b4 := beB_len c.orig 4 4
  have ba : (aggB four c.aggAs ++ beB c.aggId 4 4).length ≤ 8 := by
    rw [List.length_append, beB_len]
    have : (aggB four c.aggAs).length ≤ 4 := by
      unfold aggB
      split
      · rw [beB_len]; exact Nat.le_refl _
      · split
        · rw [beB_len]; omega
        · rw [beB_len]; omega
    omega
  have w1 := words_len c.comms
  have w2 := words_len c.clus
  have w3 := exts_len c.exts
  have w4 := lgs_len c.larges
  rcases hr with (((((hr | hr) | hr) | ((hr | hr) | hr)) | ((hr | hr) | hr)) | ((hr | hr) | hr))
  · exact optR_fits (bts_fits (by omega)) r hr
  · exact optR_fits (bts_fits (by omega)) r hr
  · exact optR_fits (by omega) r hr
  · exact optR_fits (bts_fits (by omega)) r hr
  · exact optR_fits (bts_fits (by omega)) r hr
  · exact optR_fits (bts_fits (by simp)) r hr
  · exact optR_fits (bts_fits (by omega)) r hr
  · exact optR_fits (bts_fits (by omega)) r hr
  · exact optR_fits (bts_fits (by omega)) r hr
  · exact optR_fits (bts_fits (by omega)) r hr
  · exact optR_fits (bts_fits (by omega)) r hr
  · exact optR_fits (bts_fits (by omega)) r hr
theorem optR_types (is : Bool) (f t : UInt8) (v : ByteArray) : (optR is f t v).map (fun r => r.t.toNat) = if is = true then [t.toNat] else [] := by
  cases is <;> rfl
/-- the types rise -/
theorem writeF_rise (c : AtC) (four : Bool) : riseB ltN ((writeF c four).map fun r => r.t.toNat) = true := by
  have h : ∀ b3 b4 b5 b6 b7 b8 b9 b10 b16 b32 : Bool, riseB ltN ((if true = true then [(1 : UInt8).toNat] else []) ++ (if true = true then [(2 : UInt8).toNat] else []) ++ (if b3 = true then [(3 : UInt8).toNat] else []) ++ ((if b4 = true then [(4 : UInt8).toNat] else []) ++ (if b5 = true then [(5 : UInt8).toNat] else []) ++ (if b6 = true then [(6 : UInt8).toNat] else [])) ++ ((if b7 = true then [(7 : UInt8).toNat] else []) ++ (if b8 = true then [(8 : UInt8).toNat] else []) ++ (if b9 = true then [(9 : UInt8).toNat] else [])) ++ ((if b10 = true then [(10 : UInt8).toNat] else []) ++ (if b16 = true then [(16 : UInt8).toNat] else []) ++ (if b32 = true then [(32 : UInt8).toNat] else []))) = true := by decide +kernel
  unfold writeF W1 W2 W3 W4
  simp only [List.map_append, optR_types]
  exact h _ _ _ _ _ _ _ _ _ _
theorem optR_flags {is : Bool} {f t : UInt8} {v : ByteArray} (h : clr8 f = f) : ∀ r ∈ optR is f t v, clr8 r.f = r.f := fun r hr => by
  unfold optR at hr
  split at hr
  · rw [List.mem_singleton.1 hr]; exact h
  · cases hr
theorem writeF_flags (c : AtC) (four : Bool) : ∀ r ∈ writeF c four, clr8 r.f = r.f := by
  intro r hr
  unfold writeF W1 W2 W3 W4 at hr
  simp only [List.mem_append] at hr
  rcases hr with (((((hr | hr) | hr) | ((hr | hr) | hr)) | ((hr | hr) | hr)) | ((hr | hr) | hr)) <;> exact optR_flags (by decide) r hr
theorem writeF_len (c : AtC) (four : Bool) : (writeF c four).length ≤ 12 := by
  unfold writeF W1 W2 W3 W4
  simp only [List.length_append]
  have h : ∀ (is : Bool) (f t : UInt8) (v : ByteArray), (optR is f t v).length ≤ 1 := optR_le
  have h1 := h true 64 1 (bts (beB c.origin.toNat 1 1))
  have h2 := h true 64 2 (bts (pathB four c.path))
  have h3 := h (c.next.size == 4) 64 3 c.next
  have h4 := h c.hasMed 128 4 (bts (beB c.med 4 4))
  have h5 := h c.hasPref 64 5 (bts (beB c.pref 4 4))
  have h6 := h c.atomic 64 6 (bts [])
  have h7 := h (decide (0 < c.aggAs)) 192 7 (bts (aggB four c.aggAs ++ beB c.aggId 4 4))
  have h8 := h (decide (0 < c.comms.length)) 192 8 (bts (wordsB c.comms))
  have h9 := h c.hasOrig 128 9 (bts (beB c.orig 4 4))
  have h10 := h (decide (0 < c.clus.length)) 128 10 (bts (wordsB c.clus))
  have h11 := h (decide (0 < c.exts.length)) 192 16 (bts (extsB c.exts))
  have h12 := h (decide (0 < c.larges.length)) 192 32 (bts (largesB c.larges))
  omega
end Go.Proofs.YtkcojblflebomaaGreat
set_option linter.unusedVariables false
set_option linter.unusedSimpArgs false
namespace Go.Proofs.YtkcojblflebomaaGreat
open Go.RowKit Go.MapKept Go.Shelf
open Go.Lib hiding intOf

theorem wp_name {P : Program} {c : Code} {Q : Exit → Act → World → Prop} {a : Act} {w : World} (h : ∀ W, W = w → Code.wp P c Q a W) : Code.wp P c Q a w := h w rfl
def vdV (v : Vd) : Array Value := #[.int .i64 v.act, .int .u8 v.code, .int .u8 v.sub]
/-- two variables, stored into one behind the other -/
def rdW (w : World) (cs xs : Array Value) (v : Vd) : World := (((w.alloc (.cells cs 40)).alloc (.cells #[.int .i64 0, .int .u8 0, .int .u8 0] 42)).setRow w.heap.size xs).setRow (w.heap.size + 1) #[.int .i64 v.act, .int .u8 v.code, .int .u8 v.sub]
theorem rd_z (w : World) (cs : Array Value) : CellsAt ((w.alloc (.cells cs 40)).alloc (.cells #[.int .i64 0, .int .u8 0, .int .u8 0] 42)) w.heap.size cs 40 := (CellsAt.new _ _ _).alloc _
theorem rd_y (w : World) (cs xs : Array Value) : CellsAt (((w.alloc (.cells cs 40)).alloc (.cells #[.int .i64 0, .int .u8 0, .int .u8 0] 42)).setRow w.heap.size xs) (w.heap.size + 1) #[.int .i64 0, .int .u8 0, .int .u8 0] 42 := by
  have h := CellsAt.new (w.alloc (.cells cs 40)) #[.int .i64 0, .int .u8 0, .int .u8 0] 42
  have e5 : (w.alloc (.cells cs 40)).heap.size = w.heap.size + 1 := by simp
  rw [e5] at h
  exact h.row (grown_setRow' _ _ _) (by omega)
theorem rd_a (w : World) (cs xs : Array Value) (v : Vd) : CellsAt (rdW w cs xs v) w.heap.size xs 40 := ((rd_z w cs).setRow' _).row (grown_setRow' _ _ _) (by omega)
theorem rd_v (w : World) (cs xs : Array Value) (v : Vd) : CellsAt (rdW w cs xs v) (w.heap.size + 1) #[.int .i64 v.act, .int .u8 v.code, .int .u8 v.sub] 42 := (rd_y w cs xs).setRow' _
theorem rd_b (w : World) (cs xs : Array Value) (v : Vd) : Below w.heap.size w (rdW w cs xs v) := ((((Below.refl _ _).alloc (Nat.le_refl _) _).alloc (by simp) _).grown (grown_setRow' _ _ _) (by simp; omega) (fun k hk => by cases hk; omega)).grown (grown_setRow' _ _ _) (by rw [setRow_size]; simp; omega) (fun k hk => by cases hk; omega)
theorem rd_size (w : World) (cs xs : Array Value) (v : Vd) : (rdW w cs xs v).heap.size = w.heap.size + 2 := by
  unfold rdW
  rw [setRow_size, setRow_size]
  simp
/-- attr.Read over the whole table -/
theorem read_tab (A : Option Addr) (cap : Nat) (L : List Rw) (four internal : Bool) (w : World) (h : RwsOk w A cap L) (hsz : ∀ r ∈ L, r.v.size ≤ 140737488351232) :
    Calls Tryz.prog 19 #[.slice A L.length cap, .bool four, .bool internal] w fun e w' => (∃ a : Atr, e = .returned (.tuple #[.agg a.ar, .agg #[.int .i64 (readF tab four internal [] noC ⟨0, 0, 0⟩ L).2.act, .int .u8 (readF tab four internal [] noC ⟨0, 0, 0⟩ L).2.code, .int .u8 (readF tab four internal [] noC ⟨0, 0, 0⟩ L).2.sub]]) ∧ AtO w' w.heap.size a ∧ a.c = (if 2 ≤ (readF tab four internal [] noC ⟨0, 0, 0⟩ L).2.act then noC else (readF tab four internal [] noC ⟨0, 0, 0⟩ L).1)) ∧ Below w.heap.size w w' := by
  refine (read_any tab A cap L four internal w h hsz (fun x hx b wr i f hr => tab_takes _ b wr i f hr)).mono ?_
  rintro e w' ⟨⟨a, he, ho, hc⟩, hb⟩
  exact ⟨⟨a, he, ho, hc⟩, hb⟩
theorem check_ok (a : Atr) (w : World) (h : AtrOk w a) (hc : atOk a.c = true) : Calls Tryz.prog 26 #[.agg a.ar] w fun e w' => e = .returned (.int .i64 0) ∧ Below w.heap.size w w' := by
  have h2 := check_any a w h
  rw [hc] at h2
  exact h2
theorem same_yes (a b : Atr) (w : World) (h1 : AtrOk w a) (h2 : AtrOk w b) (hc : a.c = b.c) : Calls Tryz.prog 23 #[.agg a.ar, .agg b.ar] w fun e w' => e = .returned (.bool true) ∧ Below w.heap.size w w' := by
  have h := same_any a b w h1 h2
  rw [decide_eq_true hc] at h
  exact h
theorem wpList_load_attrs_g {ops : Array Oper} {rest : List Oper} {op : Oper} {a : Act} {w : World} {Q : Exit → Act → World → Prop} (hw : Region.wanted op (yielded ops a.tmps) = true) (src : Operand) (ho : op.op = .load 40 src) (b : Nat) (hx : a.eval src = .pointer (some ⟨b, 0, none⟩)) (p : Atr) (hc : CellsAt w b p.ar 40)
    (h : wpList Tryz.prog ops Q rest (a.put op.dst p.v) w) : wpList Tryz.prog ops Q (op :: rest) a w := by
  obtain ⟨fs, hu⟩ := attrs_under
  refine wpList_step fun K hK => ?_
  rw [if_pos hw]
  exact wp_load_mid 40 src ho b 0 hx p.ar.toList _ hc.range hu rfl (by rw [attrs_size]; rfl) (hK _ _ h)
theorem noAtr_ok (w : World) : AtrOk w noAtr := (noAtr_own w 0).ok
end Go.Proofs.YtkcojblflebomaaGreat
set_option linter.unusedVariables false
set_option linter.unusedSimpArgs false
namespace Go.Proofs.YtkcojblflebomaaGreat
open Go.RowKit Go.MapKept Go.Shelf
open Go.Lib hiding intOf

theorem SplitPost.both {base : Nat} {res : Option (List Rw)} {w : World} {e : Ending} (h : SplitPost base res w e) : ∃ A c, e = .returned (.tuple #[.slice A (res.getD []).length c, .bool res.isSome]) ∧ OwnL w base 32 3 Rw.cs (.slice A (res.getD []).length c) (res.getD []) := by
  cases res with
  | none => exact ⟨none, 0, h, OwnL.nil _ _ _ _ _⟩
  | some L =>
    obtain ⟨v, he, ho⟩ := h
    obtain ⟨A, c, rfl⟩ := ho.form
    exact ⟨A, c, he, ho⟩
theorem splitStep_fits {s t : ByteArray} {r : Rw} (h : splitStep s = some (r, t)) : r.v.size ≤ s.size ∧ t.size + 3 + r.v.size ≤ s.size := by
  unfold splitStep at h
  split at h
  · cases h
  · split at h
    · cases h
    · split at h
      · cases h
      · simp only [Option.some.injEq, Prod.mk.injEq] at h
        obtain ⟨rfl, rfl⟩ := h
        simp only [nx_size, ByteArray.size_extract] at *
        have : 1 ≤ lenSize (hd s 1) := by unfold lenSize; split <;> omega
        omega
theorem splitF_fits : ∀ (n : Nat) (s : ByteArray) (L : List Rw), splitF n s = some L → (∀ r ∈ L, r.v.size ≤ s.size) ∧ L.length * 3 ≤ s.size
  | 0, s, L, h => by
    unfold splitF at h
    split at h
    · cases h
      exact ⟨fun r hr => (by cases hr), by simp⟩
    · cases h
  | n + 1, s, L, h => by
    unfold splitF at h
    split at h
    · cases h
      exact ⟨fun r hr => (by cases hr), by simp⟩
    · cases hs : splitStep s with
      | none => rw [hs] at h; cases h
      | some x =>
        obtain ⟨r, t⟩ := x
        rw [hs] at h
        simp only at h
        cases hf : splitF n t with
        | none => rw [hf] at h; cases h
        | some M =>
          rw [hf] at h
          obtain rfl : r :: M = L := Option.some.inj h
          have h1 := splitStep_fits hs
          have h2 := splitF_fits n t M hf
          refine ⟨fun q hq => ?_, by rw [List.length_cons]; omega⟩
          rcases List.mem_cons.1 hq with rfl | hq
          · exact h1.1
          · have := h2.1 q hq
            omega
theorem splitA_fits (s : ByteArray) : (∀ r ∈ (splitA s).getD [], r.v.size ≤ s.size) ∧ ((splitA s).getD []).length * 3 ≤ s.size := by
  cases h : splitA s with
  | none => exact ⟨fun r hr => (by cases hr), by simp⟩
  | some L => exact splitF_fits _ _ _ h
/-- Split, nil or not -/
theorem split_both (s : ByteArray) (w : World) (hm0 : (s.size : Int) ≤ 1048576) (L : List Rw) (b : Bool) (h : splitA s = if b = true then some L else none) (hL : b = false → L = []) :
    Calls Tryz.prog 17 #[.string s] w fun e w' => (∃ A c, e = .returned (.tuple #[.slice A L.length c, .bool b]) ∧ OwnL w' (w.heap.size + 1) 32 3 Rw.cs (.slice A L.length c) L) ∧ Below w.heap.size w w' := by
  refine (split_any s w hm0).mono fun e w' ⟨hp, hb⟩ => ⟨?_, hb⟩
  have h2 := hp.both
  rw [h] at h2
  cases b with
  | true => exact h2
  | false => rw [hL rfl]; exact h2
theorem rsplit_both (s : ByteArray) (w : World) (hm0 : (s.size : Int) ≤ 1048576) (L : List Rw) (b : Bool) (h : splitA s = if b = true then some L else none) (hL : b = false → L = []) :
    Calls Tryz.prog 18 #[.string s] w fun e w' => (∃ A c, e = .returned (.tuple #[.slice A L.length c, .bool b]) ∧ OwnL w' w.heap.size 32 3 Rw.cs (.slice A L.length c) L) ∧ Below w.heap.size w w' := by
  refine (rsplit_any s w hm0).mono fun e w' ⟨hp, hb⟩ => ⟨?_, hb⟩
  have h2 := hp.both
  rw [h] at h2
  cases b with
  | true => exact h2
  | false => rw [hL rfl]; exact h2
theorem split_letters (s : ByteArray) : ∃ (L : List Rw) (b : Bool), splitA s = (if b = true then some L else none) ∧ (b = false → L = []) ∧ (∀ r ∈ L, r.v.size ≤ s.size) ∧ L.length * 3 ≤ s.size := by
  have hf := splitA_fits s
  cases h : splitA s with
  | none => exact ⟨[], false, by simp, fun _ => rfl, fun r hr => (by cases hr), by simp⟩
  | some L =>
    rw [h] at hf
    exact ⟨L, true, by simp, fun h => (by cases h), hf.1, hf.2⟩
end Go.Proofs.YtkcojblflebomaaGreat
set_option linter.unusedVariables false
set_option linter.unusedSimpArgs false
namespace Go.Proofs.YtkcojblflebomaaGreat
open Go.RowKit Go.MapKept Go.Shelf
open Go.ChangeShapes Go.WideShapes Go.ChangeAt
open Go.Lib hiding intOf

theorem raws_lit {W : World} {g : Nat} {L : List Rw} {cs : Array Value} (h : CellsAt W g cs 32) (hcs : cs = (L.flatMap Rw.cs).toArray) (hf : ∀ r ∈ L, r.v.size ≤ 140737488351232) (hl : L.length ≤ 1000) : RwsOk W (some ⟨g, 0, none⟩) L.length L := by
  subst hcs
  refine ⟨fun _ => ⟨g, 0, rfl, h.lt, fun i ds hi j u hu => ?_⟩, Nat.le_refl _, by omega, fun r hr => by have := hf r hr; omega⟩
  rw [List.getElem?_map] at hi
  cases hx : L[i]? with
  | none => rw [hx] at hi; cases hi
  | some x =>
    rw [hx] at hi
    obtain rfl : x.cs = ds := Option.some.inj hi
    rw [Nat.zero_add, h.c]
    simp only [List.getElem?_toArray]
    exact flat_at Rw.cs_len L i x j u hx hu
set_option maxRecDepth 100000 in
set_option maxHeartbeats 8000000 in
theorem judged_any (f t : UInt8) (v : ByteArray) (internal : Bool) (w : World) (hv : v.size ≤ 140737488351232) (r : Vd) (hr : (readF tab true internal [] noC ⟨0, 0, 0⟩ [⟨f, t, v⟩]).2 = r) :
    Calls Tryz.prog 27 #[.int .u8 f.toNat, .int .u8 t.toNat, .string v, .bool internal] w fun e w' => e = .returned (.agg #[.int .i64 r.act, .int .u8 r.code, .int .u8 r.sub]) ∧ Below w.heap.size w w' := by
  have HRE : Hid (∀ (A : Option Addr) (W : World), RwsOk W A 1 [⟨f, t, v⟩] → Calls Tryz.prog 19 #[.slice A 1 1, .bool true, .bool internal] W fun e w' => (∃ a : Atr, e = .returned (.tuple #[.agg a.ar, .agg #[.int .i64 r.act, .int .u8 r.code, .int .u8 r.sub]])) ∧ Below W.heap.size W w') := fun A W h => by
    have h2 := read_tab A 1 [⟨f, t, v⟩] true internal W h (fun q hq => by rw [List.mem_singleton.1 hq]; exact hv)
    rw [hr] at h2
    refine h2.mono ?_
    rintro e w' ⟨⟨a, he, ho, hc⟩, hb⟩
    exact ⟨⟨a, he⟩, hb⟩
  clear hr
  obtain ⟨act, code, sub⟩ := r
  change Hid (∀ (A : Option Addr) (W : World), RwsOk W A 1 [⟨f, t, v⟩] → Calls Tryz.prog 19 #[.slice A 1 1, .bool true, .bool internal] W fun e w' => (∃ a : Atr, e = .returned (.tuple #[.agg a.ar, .agg #[.int .i64 act, .int .u8 code, .int .u8 sub]])) ∧ Below W.heap.size W w') at HRE
  show Calls _ _ _ _ fun e w' => e = .returned (.agg #[.int .i64 act, .int .u8 code, .int .u8 sub]) ∧ Below w.heap.size w w'
  obtain ⟨V, hV⟩ : ∃ V, V = (w.alloc (.cells #[.int .i64 0, .int .u8 0, .int .u8 0] 42)).alloc (.cells #[.int .u8 f.toNat, .int .u8 t.toNat, .string v] 32) := ⟨_, rfl⟩
  have hs1 : (w.alloc (.cells #[.int .i64 0, .int .u8 0, .int .u8 0] 42)).heap.size = w.heap.size + 1 := by simp
  have HC0 : Hid (CellsAt V w.heap.size #[.int .i64 0, .int .u8 0, .int .u8 0] 42) := by rw [hV]; exact (CellsAt.new _ _ _).alloc _
  have HR0 : Hid (RwsOk V (some ⟨w.heap.size + 1, 0, none⟩) 1 [⟨f, t, v⟩]) := by
    have h := CellsAt.new (w.alloc (.cells #[.int .i64 0, .int .u8 0, .int .u8 0] 42)) #[.int .u8 f.toNat, .int .u8 t.toNat, .string v] 32
    rw [hs1, ← hV] at h
    exact raws_lit (L := [⟨f, t, v⟩]) h rfl (fun q hq => by rw [List.mem_singleton.1 hq]; exact hv) (by simp)
  have HB0 : Hid (Below w.heap.size w V) := by rw [hV]; exact ((Below.refl _ _).alloc (Nat.le_refl _) _).alloc (by simp) _
  have HVN := Lib.hid hV
  clear hV hs1
  go_enter Tryz.func27, Tryz.ntmps27
  go_wp2_with fail
  rw [← HVN.out]
  refine (HRE.out _ _ HR0.out).mono ?_
  rintro e w5 ⟨⟨a, rfl⟩, hb⟩
  have HC5 : Hid (CellsAt w5 w.heap.size #[.int .i64 0, .int .u8 0, .int .u8 0] 42) := HC0.out.below hb HC0.out.lt
  have HB5 := Lib.hid (HB0.out.trans (hb.mono HB0.out.size))
  clear hb HC0 HR0 HB0 HVN
  go_upto_region 2 with (with_reducible show wpList _ _ _ (_ :: _) _ _; first | refine wpList_store_attrs rfl (.tmp 9) (.tmp 19) rfl w5.heap.size rfl a rfl noAtr (rd_z _ _) ?_ | refine wpList_store_verdict rfl (.tmp 10) (.tmp 20) rfl (w5.heap.size + 1) rfl ⟨act, code, sub⟩ rfl ⟨0, 0, 0⟩ (rd_y _ _ _) ?_)
  refine wp_name fun V2 hV2 => ?_
  have HBV : Hid (Below w5.heap.size w5 V2) := by rw [hV2]; exact rd_b _ _ _ ⟨act, code, sub⟩
  have HVV : Hid (CellsAt V2 (w5.heap.size + 1) #[.int .i64 act, .int .u8 code, .int .u8 sub] 42) := by rw [hV2]; exact rd_v _ _ _ ⟨act, code, sub⟩
  have HCV : Hid (CellsAt V2 w.heap.size #[.int .i64 0, .int .u8 0, .int .u8 0] 42) := HC5.out.below HBV.out HC5.out.lt
  have HB6 := Lib.hid (HB5.out.trans (HBV.out.mono HB5.out.size))
  clear hV2 HB5 HC5 HBV
  obtain ⟨c0, c1, c2⟩ := CellsAt.c3 HVV.out
  go_wp2_with (with_reducible show wpList _ _ _ (⟨none, _, _, _, _, _⟩ :: _) _ _; have hstop : True := trivial; revert hstop)
  intro _
  refine wpList_store_verdict rfl (.tmp 8) (.tmp 21) rfl w.heap.size rfl ⟨act, code, sub⟩ rfl ⟨0, 0, 0⟩ HCV.out ?_
  have HCF : Hid (CellsAt (V2.setRow w.heap.size #[.int .i64 act, .int .u8 code, .int .u8 sub]) w.heap.size #[.int .i64 act, .int .u8 code, .int .u8 sub] 42) := HCV.out.setRow' _
  have HBF : Hid (Below w.heap.size w (V2.setRow w.heap.size #[.int .i64 act, .int .u8 code, .int .u8 sub])) := HB6.out.grown (grown_setRow' _ _ _) HB6.out.size (fun k hk => by cases hk; exact Nat.le_refl _)
  clear c0 c1 c2 HB6 HCV HVV
  go_wp2_with fail
  exact bodyPost_ret (results_cell_row rfl _ _ w.heap.size 42 #[.int .i64 act, .int .u8 code, .int .u8 sub] (0, 0) _ rfl HCF.out Tryz.underlying42 rfl verdict_size) rfl ⟨rfl, HBF.out⟩
theorem kread (L : List Rw) (r : Vd) (hr : (readF tab true true [] noC ⟨0, 0, 0⟩ L).2 = r) (hf : ∀ q ∈ L, q.v.size ≤ 140737488351232) (hl : L.length ≤ 1000) (g : Nat) (W : World) (cs : Array Value) (h : CellsAt W g cs 32) (hcs : cs = (L.flatMap Rw.cs).toArray) :
    Calls Tryz.prog 19 #[.slice (some ⟨g, 0, none⟩) L.length L.length, .bool true, .bool true] W fun e w' => (∃ a : Atr, e = .returned (.tuple #[.agg a.ar, .agg #[.int .i64 r.act, .int .u8 r.code, .int .u8 r.sub]]) ∧ AtrOk w' a) ∧ Below W.heap.size W w' := by
  have h2 := read_tab (some ⟨g, 0, none⟩) L.length L true true W (raws_lit h hcs hf hl) hf
  rw [hr] at h2
  refine h2.mono ?_
  rintro e w' ⟨⟨a, he, ho, hc⟩, hb⟩
  exact ⟨⟨a, he, ho.ok⟩, hb⟩
theorem klay (L : List Rw) (hf : ∀ q ∈ L, q.v.size ≤ 140737488351232) (hl : L.length ≤ 1000) (g : Nat) (W : World) (cs : Array Value) (h : CellsAt W g cs 32) (hcs : cs = (L.flatMap Rw.cs).toArray) :
    Calls Tryz.prog 13 #[.slice (some ⟨g, 0, none⟩) L.length L.length] W fun e w' => e = .returned (layR L) ∧ Below W.heap.size W w' := lay_any _ _ L W (raws_lit h hcs hf hl)
/-- string(make([]byte, n)) -/
theorem mk_str (n : Nat) (z : Int) (hz : z = n) (hn : n ≤ 5000) : ∃ (d : ByteArray) (cs : Array Value), d.size = n ∧ ∀ u : World,
    (Instr.makeSlice 56 (.int .i64 z) (.int .i64 z)).run Tryz.prog u = .ok (.slice (some ⟨u.heap.size, 0, none⟩) n n) (u.alloc (.cells cs 5)) ∧
    (convert 56 9 (.slice (some ⟨u.heap.size, 0, none⟩) n n)).run Tryz.prog (u.alloc (.cells cs 5)) = .ok (.string d) (u.alloc (.cells cs 5)) := by
  obtain ⟨i0, hi, hz0, hz1, hz2⟩ := info_parts infoU8
  subst hz
  refine ⟨⟨(List.replicate n 0).toArray⟩, madeCells #[.int .u8 0] n, by show (List.replicate n (0 : UInt8)).toArray.size = n; simp, fun u => ⟨?_, ?_⟩⟩
  · have h := run_make (P := Tryz.prog) u 56 5 i0 (.int .u8 0) Tryz.underlying56 hi hz0 .i64 .i64 n n (by omega) (by omega) (by rw [hz2]; omega) (by omega)
    simpa [hz1, Value.cells] using h
  · have h := run_convert_bytes_back (P := Tryz.prog) (u.alloc (.cells (madeCells #[.int .u8 0] n) 5)) 56 9 5 ⟨u.heap.size, 0, none⟩ n (List.replicate n 0) Tryz.underlying56 Tryz.underlying5 Tryz.underlying9 (fun j hj => by
      rw [add_flat, cell_of_row _ u.heap.size j _ _ _ (heap_alloc_new u _)]
      simp at hj
      simp [madeCells, hj, Nat.mod_one])
    simpa using h
theorem wpList_mk_str {ops : Array Oper} {rest : List Oper} {op : Oper} {a : Act} {w : World} {Q : Exit → Act → World → Prop} (hgd : op.guard = none) (p q : Operand) (ho : op.op = .makeSlice 56 p q) (z : Int) (hx : a.eval p = .int .i64 z) (hy : a.eval q = .int .i64 z) (n : Nat) (cs : Array Value)
    (hrun : Hid (∀ u, (Instr.makeSlice 56 (.int .i64 z) (.int .i64 z)).run Tryz.prog u = .ok (.slice (some ⟨u.heap.size, 0, none⟩) n n) (u.alloc (.cells cs 5))))
    (h : wpList Tryz.prog ops Q rest (a.put op.dst (.slice (some ⟨w.heap.size, 0, none⟩) n n)) (w.alloc (.cells cs 5))) : wpList Tryz.prog ops Q (op :: rest) a w := by
  refine wpList_plain hgd fun K hK => ?_
  unfold Oper.wp execOp
  simp only [ho, hx, hy, hrun.out w, Sem.run_bind, Sem.run_pure, Result.andThen_ok]
  exact hK _ _ h
theorem wpList_conv_str {ops : Array Oper} {rest : List Oper} {op : Oper} {a : Act} {w : World} {Q : Exit → Act → World → Prop} (hgd : op.guard = none) (x : Operand) (ho : op.op = .convert 56 9 x) (g n : Nat) (hx : a.eval x = .slice (some ⟨g, 0, none⟩) n n) (d : ByteArray)
    (hrun : (convert 56 9 (.slice (some ⟨g, 0, none⟩) n n)).run Tryz.prog w = .ok (.string d) w)
    (h : wpList Tryz.prog ops Q rest (a.put op.dst (.string d)) w) : wpList Tryz.prog ops Q (op :: rest) a w := by
  refine wpList_plain hgd fun K hK => ?_
  unfold Oper.wp execOp
  simp only [ho, hx, hrun, Sem.run_bind, Sem.run_pure, Result.andThen_ok]
  exact hK _ _ h
theorem wpList_mk_u32 {ops : Array Oper} {rest : List Oper} {op : Oper} {a : Act} {w : World} {Q : Exit → Act → World → Prop} (hgd : op.guard = none) (p q : Operand) (ho : op.op = .makeSlice 36 p q) (z : Int) (hx : a.eval p = .int .i64 z) (hy : a.eval q = .int .i64 z) (n : Nat) (cs : Array Value)
    (hrun : Hid (∀ u, (Instr.makeSlice 36 (.int .i64 z) (.int .i64 z)).run Tryz.prog u = .ok (.slice (some ⟨u.heap.size, 0, none⟩) n n) (u.alloc (.cells cs 35))))
    (h : wpList Tryz.prog ops Q rest (a.put op.dst (.slice (some ⟨w.heap.size, 0, none⟩) n n)) (w.alloc (.cells cs 35))) : wpList Tryz.prog ops Q (op :: rest) a w := by
  refine wpList_plain hgd fun K hK => ?_
  unfold Oper.wp execOp
  simp only [ho, hx, hy, hrun.out w, Sem.run_bind, Sem.run_pure, Result.andThen_ok]
  exact hK _ _ h
theorem mk_zeros : ∃ cs : Array Value, (∀ j, j < 33 → cs[j]? = some (.int .u32 0)) ∧ ∀ u : World, (Instr.makeSlice 36 (.int .i64 33) (.int .i64 33)).run Tryz.prog u = .ok (.slice (some ⟨u.heap.size, 0, none⟩) 33 33) (u.alloc (.cells cs 35)) := by
  obtain ⟨i0, hi, hz0, hz1, hz2⟩ := info_parts infoU32
  refine ⟨madeCells #[.int .u32 0] 33, fun j hj => ?_, fun u => ?_⟩
  · simp [madeCells, hj, Nat.mod_one]
  · have h := run_make (P := Tryz.prog) u 36 35 i0 (.int .u32 0) Tryz.underlying36 hi hz0 .i64 .i64 33 33 (by omega) (by omega) (by rw [hz2]; omega) (by omega)
    simpa [hz1, Value.cells] using h
/-- attributes that may not be; their lists lie in the six blocks from n on -/
def bads (n : Nat) : List Atr := [{ noAtr with origin := 3 }, { noAtr with origin := -1 }, { noAtr with next := ByteArray.mk #[97, 98, 99] }, { noAtr with med := 1 }, { noAtr with pref := 1 }, { noAtr with orig := 1 }, { noAtr with aggId := 1 },
  { noAtr with mA := some ⟨n, 0, none⟩, comms := [2, 1], mC := 2 }, { noAtr with mA := some ⟨n + 1, 0, none⟩, comms := [1, 1], mC := 2 }, { noAtr with xA := some ⟨n + 1 + 1, 0, none⟩, exts := [2, 1], xC := 2 },
  { noAtr with lA := some ⟨n + 1 + 1 + 1, 0, none⟩, larges := [⟨0, 1, 0⟩, ⟨0, 0, 0⟩], lC := 2 }, { noAtr with kA := some ⟨n + 1 + 1 + 1 + 1, 0, none⟩, clus := [0, 0, 0, 0, 0, 0, 0, 0, 0, 0, 0, 0, 0, 0, 0, 0, 0, 0, 0, 0, 0, 0, 0, 0, 0, 0, 0, 0, 0, 0, 0, 0, 0], kC := 33 },
  { noAtr with pA := some ⟨n + 1 + 1 + 1 + 1 + 1, 0, none⟩, segs := [⟨0, none, [], 0⟩], pC := 1 }]
theorem bads_no (n : Nat) : ∀ p ∈ bads n, atOk p.c = false := by
  intro p hp
  simp only [bads, List.mem_cons, List.not_mem_nil, or_false] at hp
  rcases hp with rfl | rfl | rfl | rfl | rfl | rfl | rfl | rfl | rfl | rfl | rfl | rfl | rfl <;> kernel_rfl
theorem rd_lit {α : Type} {F : α → List Value} {C : Nat} (hF : ∀ a, (F a).length = C) {w : World} {b : Nat} {cs : Array Value} {T : TypeId} (h : CellsAt w b cs T) (xs : List α) (hcs : ∀ (i : Nat) (u : Value), (xs.flatMap F)[i]? = some u → cs[i]? = some u) : Rd w (some ⟨b, 0, none⟩) C (xs.map F) := by
  intro _
  refine ⟨b, 0, rfl, h.lt, fun i ds hi j u hu => ?_⟩
  rw [List.getElem?_map] at hi
  cases hx : xs[i]? with
  | none => rw [hx] at hi; cases hi
  | some x =>
    rw [hx] at hi
    obtain rfl : F x = ds := Option.some.inj hi
    rw [Nat.zero_add, h.c]
    exact hcs _ u (flat_at hF xs i x j u hx hu)
theorem arr_at {cs : Array Value} {l : List Value} (h : cs = l.toArray) (i : Nat) (u : Value) (hu : l[i]? = some u) : cs[i]? = some u := by
  subst h
  simpa using hu
theorem bads_ok (n : Nat) (Y : World) (K4 : Array Value) (hK : ∀ j, j < 33 → K4[j]? = some (.int .u32 0)) (h0 : CellsAt Y n #[.int .u32 2, .int .u32 1] 35) (h1 : CellsAt Y (n + 1) #[.int .u32 1, .int .u32 1] 35) (h2 : CellsAt Y (n + 1 + 1) #[.int .u64 2, .int .u64 1] 57)
    (h3 : CellsAt Y (n + 1 + 1 + 1) #[.int .u32 0, .int .u32 1, .int .u32 0, .int .u32 0, .int .u32 0, .int .u32 0] 59) (h4 : CellsAt Y (n + 1 + 1 + 1 + 1) K4 35) (h5 : CellsAt Y (n + 1 + 1 + 1 + 1 + 1) #[.int .i64 0, .slice none 0 0] 61) : ∀ p ∈ bads n, AtrOk Y p := by
  have hz := noAtr_ok Y
  have hlf : ∀ x ∈ [(⟨0, 1, 0⟩ : Lg), ⟨0, 0, 0⟩], x.g < 4294967296 ∧ x.a < 4294967296 ∧ x.b < 4294967296 := by
    intro x hx
    simp only [List.mem_cons, List.not_mem_nil, or_false] at hx
    rcases hx with rfl | rfl <;> decide
  have hsg : ∀ s ∈ [(⟨0, none, [], 0⟩ : Sg)], SgOk Y s := by
    intro s hs
    rw [List.mem_singleton.1 hs]
    exact ⟨rd_none Y 1, Nat.le_refl _, Nat.zero_le _, (fun x hx => by cases hx), by decide, by decide⟩
  intro p hp
  simp only [bads, List.mem_cons, List.not_mem_nil, or_false] at hp
  rcases hp with rfl | rfl | rfl | rfl | rfl | rfl | rfl | rfl | rfl | rfl | rfl | rfl | rfl
  · exact { hz with ofit := ⟨by show (-9223372036854775808 : Int) ≤ 3; decide, by show (3 : Int) ≤ _; decide⟩ }
  · exact { hz with ofit := ⟨by show (-9223372036854775808 : Int) ≤ -1; decide, by show (-1 : Int) ≤ _; decide⟩ }
  · exact { hz with next := by show (3 : Nat) ≤ _; decide }
  · exact { hz with nfit := ⟨by show (1 : Nat) < _; decide, by show (0 : Nat) < _; decide, by show (0 : Nat) < _; decide, by show (0 : Nat) < _; decide, by show (0 : Nat) < _; decide⟩ }
  · exact { hz with nfit := ⟨by show (0 : Nat) < _; decide, by show (1 : Nat) < _; decide, by show (0 : Nat) < _; decide, by show (0 : Nat) < _; decide, by show (0 : Nat) < _; decide⟩ }
  · exact { hz with nfit := ⟨by show (0 : Nat) < _; decide, by show (0 : Nat) < _; decide, by show (0 : Nat) < _; decide, by show (0 : Nat) < _; decide, by show (1 : Nat) < _; decide⟩ }
  · exact { hz with nfit := ⟨by show (0 : Nat) < _; decide, by show (0 : Nat) < _; decide, by show (0 : Nat) < _; decide, by show (1 : Nat) < _; decide, by show (0 : Nat) < _; decide⟩ }
  · exact { hz with mrd := rd_lit u1_len h0 [2, 1] (arr_at rfl), mlen := by show (2 : Nat) ≤ 2; decide, mcap := by show (2 : Nat) ≤ maxLen; decide, mfit := fun x hx => by (have hx2 : x ∈ [2, 1] := hx); simp at hx2; omega }
  · exact { hz with mrd := rd_lit u1_len h1 [1, 1] (arr_at rfl), mlen := by show (2 : Nat) ≤ 2; decide, mcap := by show (2 : Nat) ≤ maxLen; decide, mfit := fun x hx => by (have hx2 : x ∈ [1, 1] := hx); simp at hx2; omega }
  · exact { hz with xrd := rd_lit x1_len h2 [2, 1] (arr_at rfl), xlen := by show (2 : Nat) ≤ 2; decide, xcap := by show (2 : Nat) ≤ maxLen; decide, xfit := fun x hx => by (have hx2 : x ∈ [2, 1] := hx); simp at hx2; omega }
  · exact { hz with lrd := rd_lit Lg.cs_len h3 [⟨0, 1, 0⟩, ⟨0, 0, 0⟩] (arr_at rfl), llen := by show (2 : Nat) ≤ 2; decide, lcap := by show (2 : Nat) ≤ maxLen; decide, lfit := hlf }
  · refine { hz with krd := rd_lit u1_len h4 _ (fun i u hu => ?_), klen := by show (33 : Nat) ≤ 33; decide, kcap := by show (33 : Nat) ≤ maxLen; decide, kfit := fun x hx => by (have hx2 : x ∈ List.replicate 33 0 := hx); rw [List.eq_of_mem_replicate hx2]; decide }
    have hu2 : (List.replicate 33 (Value.int .u32 0))[i]? = some u := hu
    rw [List.getElem?_replicate] at hu2
    split at hu2
    · rename_i hi
      rw [hK i hi]
      exact hu2
    · cases hu2
  · exact { hz with prd := rd_lit Sg.cs_len h5 [⟨0, none, [], 0⟩] (arr_at rfl), segs := hsg, plen := by show (1 : Nat) ≤ 1; decide, pcap := by show (1 : Nat) ≤ maxLen; decide }
def atRows (ps : List Atr) : Array Value := (ps.flatMap Atr.cs).toArray
theorem alloc_size (w : World) (o : Obj) : (w.alloc o).heap.size = w.heap.size + 1 := by simp
theorem c_new (w w' : World) (cs : Array Value) (T : TypeId) (h : w' = w.alloc (.cells cs T)) : CellsAt w' w.heap.size cs T := by
  rw [h]
  exact CellsAt.new _ _ _
theorem known_blocks (w Y : World) (K4 : Array Value) (hY : Y = ((((((w.alloc (.cells #[.int .u32 2, .int .u32 1] 35)).alloc (.cells #[.int .u32 1, .int .u32 1] 35)).alloc (.cells #[.int .u64 2, .int .u64 1] 57)).alloc (.cells #[.int .u32 0, .int .u32 1, .int .u32 0, .int .u32 0, .int .u32 0, .int .u32 0] 59)).alloc (.cells K4 35)).alloc (.cells #[.int .i64 0, .slice none 0 0] 61)).alloc (.cells (atRows (bads w.heap.size)) 40)) :
    CellsAt Y w.heap.size #[.int .u32 2, .int .u32 1] 35 ∧ CellsAt Y (w.heap.size + 1) #[.int .u32 1, .int .u32 1] 35 ∧ CellsAt Y (w.heap.size + 1 + 1) #[.int .u64 2, .int .u64 1] 57 ∧ CellsAt Y (w.heap.size + 1 + 1 + 1) #[.int .u32 0, .int .u32 1, .int .u32 0, .int .u32 0, .int .u32 0, .int .u32 0] 59 ∧ CellsAt Y (w.heap.size + 1 + 1 + 1 + 1) K4 35 ∧ CellsAt Y (w.heap.size + 1 + 1 + 1 + 1 + 1) #[.int .i64 0, .slice none 0 0] 61 ∧ CellsAt Y (w.heap.size + 1 + 1 + 1 + 1 + 1 + 1) (atRows (bads w.heap.size)) 40 ∧ Below w.heap.size w Y := by
  obtain ⟨w1, h1⟩ : ∃ x, x = w.alloc (.cells #[.int .u32 2, .int .u32 1] 35) := ⟨_, rfl⟩
  obtain ⟨w2, h2⟩ : ∃ x, x = w1.alloc (.cells #[.int .u32 1, .int .u32 1] 35) := ⟨_, rfl⟩
  obtain ⟨w3, h3⟩ : ∃ x, x = w2.alloc (.cells #[.int .u64 2, .int .u64 1] 57) := ⟨_, rfl⟩
  obtain ⟨w4, h4⟩ : ∃ x, x = w3.alloc (.cells #[.int .u32 0, .int .u32 1, .int .u32 0, .int .u32 0, .int .u32 0, .int .u32 0] 59) := ⟨_, rfl⟩
  obtain ⟨w5, h5⟩ : ∃ x, x = w4.alloc (.cells K4 35) := ⟨_, rfl⟩
  obtain ⟨w6, h6⟩ : ∃ x, x = w5.alloc (.cells #[.int .i64 0, .slice none 0 0] 61) := ⟨_, rfl⟩
  rw [← h1, ← h2, ← h3, ← h4, ← h5, ← h6] at hY
  have s1 : w1.heap.size = w.heap.size + 1 := by rw [h1, alloc_size]
  have s2 : w2.heap.size = w.heap.size + 1 + 1 := by rw [h2, alloc_size, s1]
  have s3 : w3.heap.size = w.heap.size + 1 + 1 + 1 := by rw [h3, alloc_size, s2]
  have s4 : w4.heap.size = w.heap.size + 1 + 1 + 1 + 1 := by rw [h4, alloc_size, s3]
  have s5 : w5.heap.size = w.heap.size + 1 + 1 + 1 + 1 + 1 := by rw [h5, alloc_size, s4]
  have s6 : w6.heap.size = w.heap.size + 1 + 1 + 1 + 1 + 1 + 1 := by rw [h6, alloc_size, s5]
  have c1 := c_new w w1 _ _ h1
  have c2 := c_new w1 w2 _ _ h2
  have c3 := c_new w2 w3 _ _ h3
  have c4 := c_new w3 w4 _ _ h4
  have c5 := c_new w4 w5 _ _ h5
  have c6 := c_new w5 w6 _ _ h6
  have c7 := c_new w6 Y _ _ hY
  have b12 : Below w1.heap.size w1 w2 := by rw [h2]; exact (Below.refl _ _).alloc (Nat.le_refl _) _
  have b23 : Below w2.heap.size w2 w3 := by rw [h3]; exact (Below.refl _ _).alloc (Nat.le_refl _) _
  have b34 : Below w3.heap.size w3 w4 := by rw [h4]; exact (Below.refl _ _).alloc (Nat.le_refl _) _
  have b45 : Below w4.heap.size w4 w5 := by rw [h5]; exact (Below.refl _ _).alloc (Nat.le_refl _) _
  have b56 : Below w5.heap.size w5 w6 := by rw [h6]; exact (Below.refl _ _).alloc (Nat.le_refl _) _
  have b67 : Below w6.heap.size w6 Y := by rw [hY]; exact (Below.refl _ _).alloc (Nat.le_refl _) _
  have b57 := b56.trans (b67.mono b56.size)
  have b47 := b45.trans (b57.mono b45.size)
  have b37 := b34.trans (b47.mono b34.size)
  have b27 := b23.trans (b37.mono b23.size)
  have b17 := b12.trans (b27.mono b12.size)
  have b07 : Below w.heap.size w Y := by
    have h : Below w.heap.size w w1 := by rw [h1]; exact (Below.refl _ _).alloc (Nat.le_refl _) _
    exact h.trans (b17.mono h.size)
  refine ⟨c1.below b17 c1.lt, ?_, ?_, ?_, ?_, ?_, ?_, b07⟩
  · rw [← s1]; exact c2.below b27 c2.lt
  · rw [← s2]; exact c3.below b37 c3.lt
  · rw [← s3]; exact c4.below b47 c4.lt
  · rw [← s4]; exact c5.below b57 c5.lt
  · rw [← s5]; exact c6.below b67 c6.lt
  · rw [← s6]; exact c7
def twoA : Atr := { noAtr with aggAs := 70000, aggId := 1 }
theorem two_ok (w : World) : AtrOk w twoA := { noAtr_ok w with nfit := ⟨by show (0 : Nat) < _; decide, by show (0 : Nat) < _; decide, by show (70000 : Nat) < _; decide, by show (1 : Nat) < _; decide, by show (0 : Nat) < _; decide⟩ }
def twoL : List Rw := [⟨64, 1, ByteArray.mk #[0]⟩, ⟨64, 2, ByteArray.mk #[]⟩, ⟨192, 7, ByteArray.mk #[91, 160, 0, 0, 0, 1]⟩]
theorem two_write : writeF twoA.c false = twoL := by kernel_rfl
theorem two_any (w : World) : Calls Tryz.prog 25 #[.agg twoA.ar, .bool false] w fun e w' => (∃ A c, e = .returned (.tuple #[.slice A 3 c, .int .i64 0]) ∧ RwsOk w' A c twoL) ∧ Below w.heap.size w w' := by
  refine (write_ok twoA false w (two_ok w) (by kernel_rfl) (enc_spec (by kernel_rfl))).mono ?_
  rintro e w' ⟨⟨v, rfl, ho⟩, hb⟩
  rw [two_write] at ho
  obtain ⟨A, c, rfl, hr⟩ := OwnL.raws ho (fun r hr => by
    simp only [twoL, List.mem_cons, List.not_mem_nil, or_false] at hr
    rcases hr with rfl | rfl | rfl <;> decide)
  exact ⟨⟨A, c, rfl, hr⟩, hb⟩
theorem k_flag (D : ByteArray) (h : D.size = 256) : (normR ⟨64, 2, D⟩).f = 80 := by
  show (if 255 < D.size then set8 64 else clr8 64) = 80
  rw [if_pos (by omega)]
  decide
theorem k_long (D : ByteArray) (h : D.size = 256) : ∃ s : ByteArray, layR [⟨64, 2, D⟩] = .tuple #[.string s, .int .i64 0] ∧ s.size = 260 ∧ s.extract 0 4 = ByteArray.mk #[80, 2, 1, 0] ∧ splitA s = some [normR ⟨64, 2, D⟩] := by
  have hb : laysB [⟨64, 2, D⟩] = set8 64 :: 2 :: UInt8.ofNat (D.size / 256) :: UInt8.ofNat D.size :: D.data.toList := by
    unfold laysB
    rw [List.flatMap_cons, List.flatMap_nil, List.append_nil, rawB_long (r := ⟨64, 2, D⟩) (by show 255 < D.size; omega)]
    rfl
  have hd : D.data.toList.length = 256 := h
  have hl : (laysB [⟨64, 2, D⟩]).length = 260 := by rw [hb]; simp [hd, h]
  refine ⟨bts (laysB [⟨64, 2, D⟩]), layR_ok (by omega), by rw [bts_size, hl], ?_, split_back (by omega)⟩
  rw [bts_ext, hb, h]
  rfl
theorem k_over (D : ByteArray) (h : D.size = 4074) : 4077 < (laysB [⟨0, 0, D⟩]).length := by
  have hd : D.data.toList.length = 4074 := h
  unfold laysB
  rw [List.flatMap_cons, List.flatMap_nil, List.append_nil, rawB_long (r := ⟨0, 0, D⟩) (by show 255 < D.size; omega)]
  simp [hd]
theorem k_fits (D : ByteArray) (h : D.size = 4073) : ∃ s : ByteArray, layR [⟨0, 0, D⟩] = .tuple #[.string s, .int .i64 0] := by
  have hd : D.data.toList.length = 4073 := h
  refine ⟨_, layR_ok ?_⟩
  unfold laysB
  rw [List.flatMap_cons, List.flatMap_nil, List.append_nil, rawB_long (r := ⟨0, 0, D⟩) (by show 255 < D.size; omega)]
  simp [hd]
theorem ksplit (s : ByteArray) (L : List Rw) (b : Bool) (W : World) (hs : (s.size : Int) ≤ 1048576) (h : splitA s = if b = true then some L else none) (hL : b = false → L = []) (hf : ∀ q ∈ L, q.v.size ≤ 140737488351232) :
    Calls Tryz.prog 17 #[.string s] W fun e w' => (∃ A c, e = .returned (.tuple #[.slice A L.length c, .bool b]) ∧ RwsOk w' A c L) ∧ Below W.heap.size W w' := by
  refine (split_both s W hs L b h hL).mono ?_
  rintro e w' ⟨⟨A, c, he, ho⟩, hb⟩
  obtain ⟨A2, c2, hv, hok⟩ := OwnL.raws ho (fun r hr => by have := hf r hr; omega)
  injection hv with e1 e2 e3
  subst e1
  subst e3
  exact ⟨⟨A, c, he, hok⟩, hb⟩
theorem info_of {P : Program} {T : TypeId} {n : Nat} (h : (P.info? T).map (fun i => (i.zero.map fun z => z.cells.size, i.size, decide (i.bytes ≤ 1000))) = some (some n, n, true)) : ∃ i z, P.info? T = some i ∧ i.zero = some z ∧ i.size = n ∧ z.cells.size = n ∧ i.bytes ≤ 1000 := by
  cases hq : P.info? T with
  | none => simp [hq] at h
  | some i =>
    simp only [hq, Option.map_some, Option.some.injEq, Prod.mk.injEq, decide_eq_true_eq] at h
    obtain ⟨h1, h2, h3⟩ := h
    cases hz : i.zero with
    | none => rw [hz] at h1; cases h1
    | some z =>
      rw [hz] at h1
      exact ⟨i, z, rfl, hz, h2, by simpa using h1, h3⟩
theorem infoAt : ∃ i z, Tryz.prog.info? 40 = some i ∧ i.zero = some z ∧ i.size = 16 ∧ z.cells.size = 16 ∧ i.bytes ≤ 1000 := info_of (by kernel_rfl)
/-- a slice literal of attributes -/
theorem wpList_build_attrs {ops : Array Oper} {rest : List Oper} {o : Oper} {a : Act} {w : World} {Q : Exit → Act → World → Prop} {n : Nat} {parts : Array (Nat × Operand)} (hg : o.guard = none) (ho : o.op = .buildSlice 62 n parts) (ps : List Atr)
    (hv : (parts.map fun (i, x) => (i, a.eval x)).toList = ((ps.map fun p => Value.agg p.ar).zipIdx 0).map fun x => (x.2, x.1)) (hn : ps.length = n) (h0 : 0 < n) (hs : n ≤ 1000)
    (h : wpList Tryz.prog ops Q rest (a.put o.dst (.slice (some ⟨w.heap.size, 0, none⟩) n n)) (w.alloc (.cells (atRows ps) 40))) : wpList Tryz.prog ops Q (o :: rest) a w := by
  obtain ⟨i0, z0, hi, hz0, hz1, hz2, hz3⟩ := infoAt
  have e : ((ps.map fun p => Value.agg p.ar).flatMap fun v => v.cells.toList).toArray = atRows ps := by
    unfold atRows
    rw [List.flatMap_map]
    rfl
  rw [← e] at h
  have hz : i0.size = 16 := hz1
  refine wpList_buildSlice hg 62 40 n parts ho _ i0 z0 Tryz.underlying62 hi hz0 (by rw [hz]; omega) (by rw [hz]; omega) ?_ h
  rw [hv, hz]
  refine Great.fill_whole (s := 16) (by decide) (ps.map fun p => Value.agg p.ar) _ (fun v hv => ?_) ?_
  · obtain ⟨p, _, rfl⟩ := List.mem_map.1 hv
    rfl
  · rw [List.length_map, hn, Array.size_map, Array.size_range]
theorem Atr.cs_len (p : Atr) : p.cs.length = 16 := rfl
theorem at_range {w : World} {b : Nat} {ps : List Atr} {i : Nat} {p : Atr} (h : CellsAt w b (atRows ps) 40) (hi : ps[i]? = some p) : w.rangeAt b (i * 16) p.ar.toList := fun j v hv => by
  rw [h.c]
  unfold atRows
  simp only [List.getElem?_toArray]
  exact flat_at Atr.cs_len ps i p j v hi hv
theorem wpList_load_at {ops : Array Oper} {rest : List Oper} {op : Oper} {a : Act} {w : World} {Q : Exit → Act → World → Prop} (hgd : op.guard = none) (src : Operand) (ho : op.op = .load 40 src) (b i : Nat) (hx : a.eval src = .pointer (some ⟨b, i * 16, none⟩)) (ps : List Atr) (p : Atr) (hc : CellsAt w b (atRows ps) 40) (hi : ps[i]? = some p)
    (h : wpList Tryz.prog ops Q rest (a.put op.dst p.v) w) : wpList Tryz.prog ops Q (op :: rest) a w := by
  obtain ⟨fs, hu⟩ := attrs_under
  exact wpList_load_mid hgd 40 src ho b (i * 16) hx p.ar.toList _ (at_range hc hi) hu rfl (by rw [attrs_size]; rfl) h
end Go.Proofs.YtkcojblflebomaaGreat
set_option linter.unusedVariables false
set_option linter.unusedSimpArgs false
namespace Go.Proofs.YtkcojblflebomaaGreat
open Go.RowKit Go.MapKept Go.Shelf
open Go.ChangeShapes Go.WideShapes Go.ChangeAt
open Go.Lib hiding intOf

abbrev vz : Array Value := #[.int .i64 0, .int .u8 0, .int .u8 0]
theorem kj0 (w : World) : Calls Tryz.prog 27 #[.int .u8 64, .int .u8 1, .string (ByteArray.mk #[3]), .bool true] w fun e w' => e = .returned (.agg #[.int .i64 2, .int .u8 0, .int .u8 0]) ∧ Below w.heap.size w w' := judged_any 64 1 (ByteArray.mk #[3]) true w (by decide) ⟨2, 0, 0⟩ (by kernel_rfl)
theorem kj1 (w : World) : Calls Tryz.prog 27 #[.int .u8 128, .int .u8 1, .string (ByteArray.mk #[1]), .bool true] w fun e w' => e = .returned (.agg #[.int .i64 2, .int .u8 0, .int .u8 0]) ∧ Below w.heap.size w w' := judged_any 128 1 (ByteArray.mk #[1]) true w (by decide) ⟨2, 0, 0⟩ (by kernel_rfl)
theorem kj2 (w : World) : Calls Tryz.prog 27 #[.int .u8 64, .int .u8 5, .string (ByteArray.mk #[97, 98, 99]), .bool true] w fun e w' => e = .returned (.agg #[.int .i64 2, .int .u8 0, .int .u8 0]) ∧ Below w.heap.size w w' := judged_any 64 5 (ByteArray.mk #[97, 98, 99]) true w (by decide) ⟨2, 0, 0⟩ (by kernel_rfl)
theorem kj3 (w : World) : Calls Tryz.prog 27 #[.int .u8 64, .int .u8 5, .string (ByteArray.mk #[97, 98, 99]), .bool false] w fun e w' => e = .returned (.agg #[.int .i64 1, .int .u8 0, .int .u8 0]) ∧ Below w.heap.size w w' := judged_any 64 5 (ByteArray.mk #[97, 98, 99]) false w (by decide) ⟨1, 0, 0⟩ (by kernel_rfl)
theorem kj4 (w : World) : Calls Tryz.prog 27 #[.int .u8 64, .int .u8 5, .string (ByteArray.mk #[97, 98, 99, 100]), .bool false] w fun e w' => e = .returned (.agg #[.int .i64 1, .int .u8 0, .int .u8 0]) ∧ Below w.heap.size w w' := judged_any 64 5 (ByteArray.mk #[97, 98, 99, 100]) false w (by decide) ⟨1, 0, 0⟩ (by kernel_rfl)
theorem kj5 (w : World) : Calls Tryz.prog 27 #[.int .u8 0, .int .u8 9, .string (ByteArray.mk #[97, 98, 99, 100]), .bool false] w fun e w' => e = .returned (.agg #[.int .i64 1, .int .u8 0, .int .u8 0]) ∧ Below w.heap.size w w' := judged_any 0 9 (ByteArray.mk #[97, 98, 99, 100]) false w (by decide) ⟨1, 0, 0⟩ (by kernel_rfl)
theorem kj6 (w : World) : Calls Tryz.prog 27 #[.int .u8 64, .int .u8 99, .string (ByteArray.mk #[]), .bool true] w fun e w' => e = .returned (.agg #[.int .i64 3, .int .u8 3, .int .u8 2]) ∧ Below w.heap.size w w' := judged_any 64 99 (ByteArray.mk #[]) true w (by decide) ⟨3, 3, 2⟩ (by kernel_rfl)
theorem kj7 (w : World) : Calls Tryz.prog 27 #[.int .u8 128, .int .u8 99, .string (ByteArray.mk #[]), .bool true] w fun e w' => e = .returned (.agg #[.int .i64 0, .int .u8 0, .int .u8 0]) ∧ Below w.heap.size w w' := judged_any 128 99 (ByteArray.mk #[]) true w (by decide) ⟨0, 0, 0⟩ (by kernel_rfl)
theorem kj8 (w : World) : Calls Tryz.prog 27 #[.int .u8 192, .int .u8 7, .string (ByteArray.mk #[49, 50, 51, 52, 53, 54, 55]), .bool true] w fun e w' => e = .returned (.agg #[.int .i64 1, .int .u8 0, .int .u8 0]) ∧ Below w.heap.size w w' := judged_any 192 7 (ByteArray.mk #[49, 50, 51, 52, 53, 54, 55]) true w (by decide) ⟨1, 0, 0⟩ (by kernel_rfl)
theorem kj9 (w : World) : Calls Tryz.prog 27 #[.int .u8 192, .int .u8 7, .string (ByteArray.mk #[0, 0, 0, 0, 97, 98, 99, 100]), .bool true] w fun e w' => e = .returned (.agg #[.int .i64 1, .int .u8 0, .int .u8 0]) ∧ Below w.heap.size w w' := judged_any 192 7 (ByteArray.mk #[0, 0, 0, 0, 97, 98, 99, 100]) true w (by decide) ⟨1, 0, 0⟩ (by kernel_rfl)
theorem kj10 (w : World) : Calls Tryz.prog 27 #[.int .u8 64, .int .u8 6, .string (ByteArray.mk #[97]), .bool true] w fun e w' => e = .returned (.agg #[.int .i64 1, .int .u8 0, .int .u8 0]) ∧ Below w.heap.size w w' := judged_any 64 6 (ByteArray.mk #[97]) true w (by decide) ⟨1, 0, 0⟩ (by kernel_rfl)
theorem kj11 (w : World) : Calls Tryz.prog 27 #[.int .u8 192, .int .u8 6, .string (ByteArray.mk #[]), .bool true] w fun e w' => e = .returned (.agg #[.int .i64 2, .int .u8 0, .int .u8 0]) ∧ Below w.heap.size w w' := judged_any 192 6 (ByteArray.mk #[]) true w (by decide) ⟨2, 0, 0⟩ (by kernel_rfl)
theorem kj12 (w : World) : Calls Tryz.prog 27 #[.int .u8 192, .int .u8 8, .string (ByteArray.mk #[]), .bool true] w fun e w' => e = .returned (.agg #[.int .i64 2, .int .u8 0, .int .u8 0]) ∧ Below w.heap.size w w' := judged_any 192 8 (ByteArray.mk #[]) true w (by decide) ⟨2, 0, 0⟩ (by kernel_rfl)
theorem kj13 (w : World) : Calls Tryz.prog 27 #[.int .u8 192, .int .u8 32, .string (ByteArray.mk #[49, 50, 51, 52, 53, 54, 55, 56]), .bool true] w fun e w' => e = .returned (.agg #[.int .i64 2, .int .u8 0, .int .u8 0]) ∧ Below w.heap.size w w' := judged_any 192 32 (ByteArray.mk #[49, 50, 51, 52, 53, 54, 55, 56]) true w (by decide) ⟨2, 0, 0⟩ (by kernel_rfl)
theorem kj14 (w : World) : Calls Tryz.prog 27 #[.int .u8 96, .int .u8 6, .string (ByteArray.mk #[]), .bool true] w fun e w' => e = .returned (.agg #[.int .i64 0, .int .u8 0, .int .u8 0]) ∧ Below w.heap.size w w' := judged_any 96 6 (ByteArray.mk #[]) true w (by decide) ⟨0, 0, 0⟩ (by kernel_rfl)
theorem kj15 (w : World) : Calls Tryz.prog 27 #[.int .u8 64, .int .u8 2, .string (ByteArray.mk #[]), .bool true] w fun e w' => e = .returned (.agg #[.int .i64 0, .int .u8 0, .int .u8 0]) ∧ Below w.heap.size w w' := judged_any 64 2 (ByteArray.mk #[]) true w (by decide) ⟨0, 0, 0⟩ (by kernel_rfl)
set_option maxRecDepth 100000 in
set_option maxHeartbeats 16000000 in
theorem known_walk (w : World) : Calls Tryz.prog 11 #[] w fun e w' => e = .returned (.bool true) ∧ Below w.heap.size w w' := by
  have HJ0 := Lib.hid kj0
  have HJ1 := Lib.hid kj1
  have HJ2 := Lib.hid kj2
  have HJ3 := Lib.hid kj3
  have HJ4 := Lib.hid kj4
  have HJ5 := Lib.hid kj5
  have HJ6 := Lib.hid kj6
  have HJ7 := Lib.hid kj7
  have HJ8 := Lib.hid kj8
  have HJ9 := Lib.hid kj9
  have HJ10 := Lib.hid kj10
  have HJ11 := Lib.hid kj11
  have HJ12 := Lib.hid kj12
  have HJ13 := Lib.hid kj13
  have HJ14 := Lib.hid kj14
  have HJ15 := Lib.hid kj15
  go_enter Tryz.func11, Tryz.ntmps11
  go_upto_region 4 with fail
  refine wp_name fun V hV => ?_
  have HA1 : Hid (CellsAt V w.heap.size #[.int .i64 2, .int .u8 0, .int .u8 0] 42) := by rw [hV]; exact ((CellsAt.new _ _ _).alloc _).alloc _
  have e1 : (w.alloc (.cells #[.int .i64 2, .int .u8 0, .int .u8 0] 42)).heap.size = w.heap.size + 1 := by simp
  have e2 : ((w.alloc (.cells #[.int .i64 2, .int .u8 0, .int .u8 0] 42)).alloc (.cells #[.int .i64 1, .int .u8 0, .int .u8 0] 42)).heap.size = w.heap.size + 1 + 1 := by simp
  have HA2 : Hid (CellsAt V (w.heap.size + 1) #[.int .i64 1, .int .u8 0, .int .u8 0] 42) := by
    have h := CellsAt.new (w.alloc (.cells #[.int .i64 2, .int .u8 0, .int .u8 0] 42)) #[.int .i64 1, .int .u8 0, .int .u8 0] 42
    rw [e1] at h
    rw [hV]
    exact h.alloc _
  have HA3 : Hid (CellsAt V (w.heap.size + 1 + 1) #[.int .i64 0, .int .u8 0, .int .u8 0] 42) := by
    have h := CellsAt.new ((w.alloc (.cells #[.int .i64 2, .int .u8 0, .int .u8 0] 42)).alloc (.cells #[.int .i64 1, .int .u8 0, .int .u8 0] 42)) #[.int .i64 0, .int .u8 0, .int .u8 0] 42
    rw [e2] at h
    rw [hV]
    exact h
  have HB0 : Hid (Below w.heap.size w V) := by rw [hV]; exact (((Below.refl _ _).alloc (Nat.le_refl _) _).alloc (by simp) _).alloc (by simp; omega) _
  clear hV e1 e2
  go_cut [110] (fun v wx => v = .bool false ∧ Hid (CellsAt wx w.heap.size #[.int .i64 2, .int .u8 0, .int .u8 0] 42 ∧ CellsAt wx (w.heap.size + 1) #[.int .i64 1, .int .u8 0, .int .u8 0] 42 ∧ CellsAt wx (w.heap.size + 1 + 1) #[.int .i64 0, .int .u8 0, .int .u8 0] 42 ∧ Below w.heap.size w wx))
  case first =>
    as_aux_lemma =>
      refine wp_region_held_drew (S := fun w' => CellsAt w' w.heap.size #[.int .i64 2, .int .u8 0, .int .u8 0] 42 ∧ CellsAt w' (w.heap.size + 1) #[.int .i64 1, .int .u8 0, .int .u8 0] 42 ∧ CellsAt w' (w.heap.size + 1 + 1) #[.int .i64 0, .int .u8 0, .int .u8 0] 42 ∧ Below w.heap.size w w') (by as_aux_lemma => kernel_rfl) (⟨HA1.out.drew 1, HA2.out.drew 1, HA3.out.drew 1, below_drewN HB0.out 1⟩) (fun hHeld => ?_)
      refine wpAnyH_take (i := 1) (oi := { dst := some 34, op := Op.load 42 (Operand.tmp 1), type := 42, pos := "outright.go:140", after := #[], guard := none }) (v := .agg #[.int .i64 2, .int .u8 0, .int .u8 0]) rfl (by as_aux_lemma => kernel_rfl) (by as_aux_lemma => kernel_rfl) (by as_aux_lemma => kernel_rfl) (fun _ _ _ h => h) (yields_verdict (by rfl) _ rfl w.heap.size (by rfl) ⟨2, 0, 0⟩ (fun w h => h.1)) hHeld ?_
      try simp only [Act.put, List.setIfInBounds_toArray, List.set_cons_zero, List.set_cons_succ]
      refine wpAnyH_ready (rs := [0]) (by as_aux_lemma => kernel_rfl) (by simp) ?_
      refine AllReadyH.cons (o := { dst := some 33, op := Op.call { callee := Callee.value (Operand.func 27), args := #[Operand.const (Value.int IntKind.u8 64), Operand.const (Value.int IntKind.u8 1), Operand.const (Value.string { data := #[3] }), Operand.const (Value.bool true)], argTypes := #[5, 5, 9, 4] }, type := 42, pos := "outright.go:140", after := #[], guard := none }) rfl (fun K hK => ?_) AllReadyH.nil
      go_simp
      refine (HJ0.out _).mono ?_
      rintro e w0 ⟨rfl, hb0⟩
      have HS0 := Lib.hid hHeld
      refine hK.out _ _ (⟨HS0.out.1.below hb0 HS0.out.1.lt, HS0.out.2.1.below hb0 HS0.out.2.1.lt, HS0.out.2.2.1.below hb0 HS0.out.2.2.1.lt, HS0.out.2.2.2.trans (hb0.mono HS0.out.2.2.2.size)⟩) (fun hHeld => ?_)
      clear hK K
      try simp only [Act.put, List.setIfInBounds_toArray, List.set_cons_zero, List.set_cons_succ]
      refine wpAnyH_take (i := 2) (oi := { dst := some 35, op := Op.binOp BinOp.neq 42 (Operand.tmp 33) (Operand.tmp 34) 42, type := 4, pos := "outright.go:140", after := #[{ on := 0, ground := Ground.data }, { on := 1, ground := Ground.data }], guard := none }) (v := ?_) rfl (by as_aux_lemma => kernel_rfl) (by as_aux_lemma => kernel_rfl) (by as_aux_lemma => kernel_rfl) (fun _ _ _ h => h) (Or.inl ⟨by rfl, ?_⟩) hHeld ?_
      rotate_left
      · intro w hSw
        clear hSw
        go_simp
        try with_reducible rfl
      try simp only [Act.put, List.setIfInBounds_toArray, List.set_cons_zero, List.set_cons_succ]
      refine wpAnyH_take (i := 3) (oi := { dst := some 36, op := Op.move (Operand.tmp 35), type := 4, pos := "outright.go:140", after := #[{ on := 2, ground := Ground.data }, { on := 0, ground := Ground.chain }], guard := none }) (v := ?_) rfl (by as_aux_lemma => kernel_rfl) (by as_aux_lemma => kernel_rfl) (by as_aux_lemma => kernel_rfl) (fun _ _ _ h => h) (Or.inl ⟨by rfl, ?_⟩) hHeld ?_
      rotate_left
      · intro w hSw
        clear hSw
        go_simp
        try with_reducible rfl
      try simp only [Act.put, List.setIfInBounds_toArray, List.set_cons_zero, List.set_cons_succ]
      refine wpAnyH_take (i := 5) (oi := { dst := some 38, op := Op.load 42 (Operand.tmp 1), type := 42, pos := "outright.go:140", after := #[{ on := 3, ground := Ground.guard }], guard := some (3, false) }) (v := .agg #[.int .i64 2, .int .u8 0, .int .u8 0]) rfl (by as_aux_lemma => kernel_rfl) (by as_aux_lemma => kernel_rfl) (by as_aux_lemma => kernel_rfl) (fun _ _ _ h => h) (yields_verdict (by rfl) _ rfl w.heap.size (by rfl) ⟨2, 0, 0⟩ (fun w h => h.1)) hHeld ?_
      try simp only [Act.put, List.setIfInBounds_toArray, List.set_cons_zero, List.set_cons_succ]
      refine wpAnyH_ready (rs := [4]) (by as_aux_lemma => kernel_rfl) (by simp) ?_
      refine AllReadyH.cons (o := { dst := some 37, op := Op.call { callee := Callee.value (Operand.func 27), args := #[Operand.const (Value.int IntKind.u8 128), Operand.const (Value.int IntKind.u8 1), Operand.const (Value.string { data := #[1] }), Operand.const (Value.bool true)], argTypes := #[5, 5, 9, 4] }, type := 42, pos := "outright.go:140", after := #[{ on := 3, ground := Ground.chain }, { on := 3, ground := Ground.guard }], guard := some (3, false) }) rfl (fun K hK => ?_) AllReadyH.nil
      go_simp
      refine (HJ1.out _).mono ?_
      rintro e w1 ⟨rfl, hb1⟩
      have HS1 := Lib.hid hHeld
      refine hK.out _ _ (⟨HS1.out.1.below hb1 HS1.out.1.lt, HS1.out.2.1.below hb1 HS1.out.2.1.lt, HS1.out.2.2.1.below hb1 HS1.out.2.2.1.lt, HS1.out.2.2.2.trans (hb1.mono HS1.out.2.2.2.size)⟩) (fun hHeld => ?_)
      clear hK K
      try simp only [Act.put, List.setIfInBounds_toArray, List.set_cons_zero, List.set_cons_succ]
      refine wpAnyH_take (i := 6) (oi := { dst := some 39, op := Op.binOp BinOp.neq 42 (Operand.tmp 37) (Operand.tmp 38) 42, type := 4, pos := "outright.go:140", after := #[{ on := 4, ground := Ground.data }, { on := 5, ground := Ground.data }, { on := 3, ground := Ground.guard }], guard := some (3, false) }) (v := ?_) rfl (by as_aux_lemma => kernel_rfl) (by as_aux_lemma => kernel_rfl) (by as_aux_lemma => kernel_rfl) (fun _ _ _ h => h) (Or.inl ⟨by rfl, ?_⟩) hHeld ?_
      rotate_left
      · intro w hSw
        clear hSw
        go_simp
        try with_reducible rfl
      try simp only [Act.put, List.setIfInBounds_toArray, List.set_cons_zero, List.set_cons_succ]
      refine wpAnyH_take (i := 7) (oi := { dst := some 40, op := Op.pick (Operand.tmp 36) (Operand.const (Value.bool true)) (Operand.tmp 39), type := 4, pos := "outright.go:140", after := #[{ on := 3, ground := Ground.data }, { on := 6, ground := Ground.data }], guard := none }) (v := ?_) rfl (by as_aux_lemma => kernel_rfl) (by as_aux_lemma => kernel_rfl) (by as_aux_lemma => kernel_rfl) (fun _ _ _ h => h) (Or.inl ⟨by rfl, ?_⟩) hHeld ?_
      rotate_left
      · intro w hSw
        clear hSw
        go_simp
        try with_reducible rfl
      try simp only [Act.put, List.setIfInBounds_toArray, List.set_cons_zero, List.set_cons_succ]
      refine wpAnyH_take (i := 8) (oi := { dst := some 41, op := Op.move (Operand.tmp 40), type := 4, pos := "outright.go:140", after := #[{ on := 7, ground := Ground.data }, { on := 4, ground := Ground.chain }], guard := none }) (v := ?_) rfl (by as_aux_lemma => kernel_rfl) (by as_aux_lemma => kernel_rfl) (by as_aux_lemma => kernel_rfl) (fun _ _ _ h => h) (Or.inl ⟨by rfl, ?_⟩) hHeld ?_
      rotate_left
      · intro w hSw
        clear hSw
        go_simp
        try with_reducible rfl
      try simp only [Act.put, List.setIfInBounds_toArray, List.set_cons_zero, List.set_cons_succ]
      refine wpAnyH_take (i := 10) (oi := { dst := some 43, op := Op.load 42 (Operand.tmp 1), type := 42, pos := "outright.go:140", after := #[{ on := 8, ground := Ground.guard }], guard := some (8, false) }) (v := .agg #[.int .i64 2, .int .u8 0, .int .u8 0]) rfl (by as_aux_lemma => kernel_rfl) (by as_aux_lemma => kernel_rfl) (by as_aux_lemma => kernel_rfl) (fun _ _ _ h => h) (yields_verdict (by rfl) _ rfl w.heap.size (by rfl) ⟨2, 0, 0⟩ (fun w h => h.1)) hHeld ?_
      try simp only [Act.put, List.setIfInBounds_toArray, List.set_cons_zero, List.set_cons_succ]
      refine wpAnyH_ready (rs := [9]) (by as_aux_lemma => kernel_rfl) (by simp) ?_
      refine AllReadyH.cons (o := { dst := some 42, op := Op.call { callee := Callee.value (Operand.func 27), args := #[Operand.const (Value.int IntKind.u8 64), Operand.const (Value.int IntKind.u8 5), Operand.const (Value.string { data := #[97, 98, 99] }), Operand.const (Value.bool true)], argTypes := #[5, 5, 9, 4] }, type := 42, pos := "outright.go:140", after := #[{ on := 8, ground := Ground.chain }, { on := 8, ground := Ground.guard }], guard := some (8, false) }) rfl (fun K hK => ?_) AllReadyH.nil
      go_simp
      refine (HJ2.out _).mono ?_
      rintro e w2 ⟨rfl, hb2⟩
      have HS2 := Lib.hid hHeld
      refine hK.out _ _ (⟨HS2.out.1.below hb2 HS2.out.1.lt, HS2.out.2.1.below hb2 HS2.out.2.1.lt, HS2.out.2.2.1.below hb2 HS2.out.2.2.1.lt, HS2.out.2.2.2.trans (hb2.mono HS2.out.2.2.2.size)⟩) (fun hHeld => ?_)
      clear hK K
      try simp only [Act.put, List.setIfInBounds_toArray, List.set_cons_zero, List.set_cons_succ]
      refine wpAnyH_take (i := 11) (oi := { dst := some 44, op := Op.binOp BinOp.neq 42 (Operand.tmp 42) (Operand.tmp 43) 42, type := 4, pos := "outright.go:140", after := #[{ on := 9, ground := Ground.data }, { on := 10, ground := Ground.data }, { on := 8, ground := Ground.guard }], guard := some (8, false) }) (v := ?_) rfl (by as_aux_lemma => kernel_rfl) (by as_aux_lemma => kernel_rfl) (by as_aux_lemma => kernel_rfl) (fun _ _ _ h => h) (Or.inl ⟨by rfl, ?_⟩) hHeld ?_
      rotate_left
      · intro w hSw
        clear hSw
        go_simp
        try with_reducible rfl
      try simp only [Act.put, List.setIfInBounds_toArray, List.set_cons_zero, List.set_cons_succ]
      refine wpAnyH_take (i := 12) (oi := { dst := some 45, op := Op.pick (Operand.tmp 41) (Operand.const (Value.bool true)) (Operand.tmp 44), type := 4, pos := "outright.go:140", after := #[{ on := 8, ground := Ground.data }, { on := 11, ground := Ground.data }], guard := none }) (v := ?_) rfl (by as_aux_lemma => kernel_rfl) (by as_aux_lemma => kernel_rfl) (by as_aux_lemma => kernel_rfl) (fun _ _ _ h => h) (Or.inl ⟨by rfl, ?_⟩) hHeld ?_
      rotate_left
      · intro w hSw
        clear hSw
        go_simp
        try with_reducible rfl
      try simp only [Act.put, List.setIfInBounds_toArray, List.set_cons_zero, List.set_cons_succ]
      refine wpAnyH_take (i := 13) (oi := { dst := some 46, op := Op.move (Operand.tmp 45), type := 4, pos := "outright.go:140", after := #[{ on := 12, ground := Ground.data }, { on := 9, ground := Ground.chain }], guard := none }) (v := ?_) rfl (by as_aux_lemma => kernel_rfl) (by as_aux_lemma => kernel_rfl) (by as_aux_lemma => kernel_rfl) (fun _ _ _ h => h) (Or.inl ⟨by rfl, ?_⟩) hHeld ?_
      rotate_left
      · intro w hSw
        clear hSw
        go_simp
        try with_reducible rfl
      try simp only [Act.put, List.setIfInBounds_toArray, List.set_cons_zero, List.set_cons_succ]
      refine wpAnyH_take (i := 15) (oi := { dst := some 48, op := Op.load 42 (Operand.tmp 2), type := 42, pos := "outright.go:140", after := #[{ on := 13, ground := Ground.guard }], guard := some (13, false) }) (v := .agg #[.int .i64 1, .int .u8 0, .int .u8 0]) rfl (by as_aux_lemma => kernel_rfl) (by as_aux_lemma => kernel_rfl) (by as_aux_lemma => kernel_rfl) (fun _ _ _ h => h) (yields_verdict (by rfl) _ rfl (w.heap.size + 1) (by rfl) ⟨1, 0, 0⟩ (fun w h => h.2.1)) hHeld ?_
      try simp only [Act.put, List.setIfInBounds_toArray, List.set_cons_zero, List.set_cons_succ]
      refine wpAnyH_ready (rs := [14]) (by as_aux_lemma => kernel_rfl) (by simp) ?_
      refine AllReadyH.cons (o := { dst := some 47, op := Op.call { callee := Callee.value (Operand.func 27), args := #[Operand.const (Value.int IntKind.u8 64), Operand.const (Value.int IntKind.u8 5), Operand.const (Value.string { data := #[97, 98, 99] }), Operand.const (Value.bool false)], argTypes := #[5, 5, 9, 4] }, type := 42, pos := "outright.go:140", after := #[{ on := 13, ground := Ground.chain }, { on := 13, ground := Ground.guard }], guard := some (13, false) }) rfl (fun K hK => ?_) AllReadyH.nil
      go_simp
      refine (HJ3.out _).mono ?_
      rintro e w3 ⟨rfl, hb3⟩
      have HS3 := Lib.hid hHeld
      refine hK.out _ _ (⟨HS3.out.1.below hb3 HS3.out.1.lt, HS3.out.2.1.below hb3 HS3.out.2.1.lt, HS3.out.2.2.1.below hb3 HS3.out.2.2.1.lt, HS3.out.2.2.2.trans (hb3.mono HS3.out.2.2.2.size)⟩) (fun hHeld => ?_)
      clear hK K
      try simp only [Act.put, List.setIfInBounds_toArray, List.set_cons_zero, List.set_cons_succ]
      refine wpAnyH_take (i := 16) (oi := { dst := some 49, op := Op.binOp BinOp.neq 42 (Operand.tmp 47) (Operand.tmp 48) 42, type := 4, pos := "outright.go:140", after := #[{ on := 14, ground := Ground.data }, { on := 15, ground := Ground.data }, { on := 13, ground := Ground.guard }], guard := some (13, false) }) (v := ?_) rfl (by as_aux_lemma => kernel_rfl) (by as_aux_lemma => kernel_rfl) (by as_aux_lemma => kernel_rfl) (fun _ _ _ h => h) (Or.inl ⟨by rfl, ?_⟩) hHeld ?_
      rotate_left
      · intro w hSw
        clear hSw
        go_simp
        try with_reducible rfl
      try simp only [Act.put, List.setIfInBounds_toArray, List.set_cons_zero, List.set_cons_succ]
      refine wpAnyH_take (i := 17) (oi := { dst := some 50, op := Op.pick (Operand.tmp 46) (Operand.const (Value.bool true)) (Operand.tmp 49), type := 4, pos := "outright.go:140", after := #[{ on := 13, ground := Ground.data }, { on := 16, ground := Ground.data }], guard := none }) (v := ?_) rfl (by as_aux_lemma => kernel_rfl) (by as_aux_lemma => kernel_rfl) (by as_aux_lemma => kernel_rfl) (fun _ _ _ h => h) (Or.inl ⟨by rfl, ?_⟩) hHeld ?_
      rotate_left
      · intro w hSw
        clear hSw
        go_simp
        try with_reducible rfl
      try simp only [Act.put, List.setIfInBounds_toArray, List.set_cons_zero, List.set_cons_succ]
      refine wpAnyH_take (i := 18) (oi := { dst := some 51, op := Op.move (Operand.tmp 50), type := 4, pos := "outright.go:140", after := #[{ on := 17, ground := Ground.data }, { on := 14, ground := Ground.chain }], guard := none }) (v := ?_) rfl (by as_aux_lemma => kernel_rfl) (by as_aux_lemma => kernel_rfl) (by as_aux_lemma => kernel_rfl) (fun _ _ _ h => h) (Or.inl ⟨by rfl, ?_⟩) hHeld ?_
      rotate_left
      · intro w hSw
        clear hSw
        go_simp
        try with_reducible rfl
      try simp only [Act.put, List.setIfInBounds_toArray, List.set_cons_zero, List.set_cons_succ]
      refine wpAnyH_take (i := 20) (oi := { dst := some 53, op := Op.load 42 (Operand.tmp 2), type := 42, pos := "outright.go:140", after := #[{ on := 18, ground := Ground.guard }], guard := some (18, false) }) (v := .agg #[.int .i64 1, .int .u8 0, .int .u8 0]) rfl (by as_aux_lemma => kernel_rfl) (by as_aux_lemma => kernel_rfl) (by as_aux_lemma => kernel_rfl) (fun _ _ _ h => h) (yields_verdict (by rfl) _ rfl (w.heap.size + 1) (by rfl) ⟨1, 0, 0⟩ (fun w h => h.2.1)) hHeld ?_
      try simp only [Act.put, List.setIfInBounds_toArray, List.set_cons_zero, List.set_cons_succ]
      refine wpAnyH_ready (rs := [19]) (by as_aux_lemma => kernel_rfl) (by simp) ?_
      refine AllReadyH.cons (o := { dst := some 52, op := Op.call { callee := Callee.value (Operand.func 27), args := #[Operand.const (Value.int IntKind.u8 64), Operand.const (Value.int IntKind.u8 5), Operand.const (Value.string { data := #[97, 98, 99, 100] }), Operand.const (Value.bool false)], argTypes := #[5, 5, 9, 4] }, type := 42, pos := "outright.go:140", after := #[{ on := 18, ground := Ground.chain }, { on := 18, ground := Ground.guard }], guard := some (18, false) }) rfl (fun K hK => ?_) AllReadyH.nil
      go_simp
      refine (HJ4.out _).mono ?_
      rintro e w4 ⟨rfl, hb4⟩
      have HS4 := Lib.hid hHeld
      refine hK.out _ _ (⟨HS4.out.1.below hb4 HS4.out.1.lt, HS4.out.2.1.below hb4 HS4.out.2.1.lt, HS4.out.2.2.1.below hb4 HS4.out.2.2.1.lt, HS4.out.2.2.2.trans (hb4.mono HS4.out.2.2.2.size)⟩) (fun hHeld => ?_)
      clear hK K
      try simp only [Act.put, List.setIfInBounds_toArray, List.set_cons_zero, List.set_cons_succ]
      refine wpAnyH_take (i := 21) (oi := { dst := some 54, op := Op.binOp BinOp.neq 42 (Operand.tmp 52) (Operand.tmp 53) 42, type := 4, pos := "outright.go:140", after := #[{ on := 19, ground := Ground.data }, { on := 20, ground := Ground.data }, { on := 18, ground := Ground.guard }], guard := some (18, false) }) (v := ?_) rfl (by as_aux_lemma => kernel_rfl) (by as_aux_lemma => kernel_rfl) (by as_aux_lemma => kernel_rfl) (fun _ _ _ h => h) (Or.inl ⟨by rfl, ?_⟩) hHeld ?_
      rotate_left
      · intro w hSw
        clear hSw
        go_simp
        try with_reducible rfl
      try simp only [Act.put, List.setIfInBounds_toArray, List.set_cons_zero, List.set_cons_succ]
      refine wpAnyH_take (i := 22) (oi := { dst := some 55, op := Op.pick (Operand.tmp 51) (Operand.const (Value.bool true)) (Operand.tmp 54), type := 4, pos := "outright.go:140", after := #[{ on := 18, ground := Ground.data }, { on := 21, ground := Ground.data }], guard := none }) (v := ?_) rfl (by as_aux_lemma => kernel_rfl) (by as_aux_lemma => kernel_rfl) (by as_aux_lemma => kernel_rfl) (fun _ _ _ h => h) (Or.inl ⟨by rfl, ?_⟩) hHeld ?_
      rotate_left
      · intro w hSw
        clear hSw
        go_simp
        try with_reducible rfl
      try simp only [Act.put, List.setIfInBounds_toArray, List.set_cons_zero, List.set_cons_succ]
      refine wpAnyH_take (i := 23) (oi := { dst := some 56, op := Op.move (Operand.tmp 55), type := 4, pos := "outright.go:140", after := #[{ on := 22, ground := Ground.data }, { on := 19, ground := Ground.chain }], guard := none }) (v := ?_) rfl (by as_aux_lemma => kernel_rfl) (by as_aux_lemma => kernel_rfl) (by as_aux_lemma => kernel_rfl) (fun _ _ _ h => h) (Or.inl ⟨by rfl, ?_⟩) hHeld ?_
      rotate_left
      · intro w hSw
        clear hSw
        go_simp
        try with_reducible rfl
      try simp only [Act.put, List.setIfInBounds_toArray, List.set_cons_zero, List.set_cons_succ]
      refine wpAnyH_take (i := 25) (oi := { dst := some 58, op := Op.load 42 (Operand.tmp 2), type := 42, pos := "outright.go:140", after := #[{ on := 23, ground := Ground.guard }], guard := some (23, false) }) (v := .agg #[.int .i64 1, .int .u8 0, .int .u8 0]) rfl (by as_aux_lemma => kernel_rfl) (by as_aux_lemma => kernel_rfl) (by as_aux_lemma => kernel_rfl) (fun _ _ _ h => h) (yields_verdict (by rfl) _ rfl (w.heap.size + 1) (by rfl) ⟨1, 0, 0⟩ (fun w h => h.2.1)) hHeld ?_
      try simp only [Act.put, List.setIfInBounds_toArray, List.set_cons_zero, List.set_cons_succ]
      refine wpAnyH_ready (rs := [24]) (by as_aux_lemma => kernel_rfl) (by simp) ?_
      refine AllReadyH.cons (o := { dst := some 57, op := Op.call { callee := Callee.value (Operand.func 27), args := #[Operand.const (Value.int IntKind.u8 0), Operand.const (Value.int IntKind.u8 9), Operand.const (Value.string { data := #[97, 98, 99, 100] }), Operand.const (Value.bool false)], argTypes := #[5, 5, 9, 4] }, type := 42, pos := "outright.go:140", after := #[{ on := 23, ground := Ground.chain }, { on := 23, ground := Ground.guard }], guard := some (23, false) }) rfl (fun K hK => ?_) AllReadyH.nil
      go_simp
      refine (HJ5.out _).mono ?_
      rintro e w5 ⟨rfl, hb5⟩
      have HS5 := Lib.hid hHeld
      refine hK.out _ _ (⟨HS5.out.1.below hb5 HS5.out.1.lt, HS5.out.2.1.below hb5 HS5.out.2.1.lt, HS5.out.2.2.1.below hb5 HS5.out.2.2.1.lt, HS5.out.2.2.2.trans (hb5.mono HS5.out.2.2.2.size)⟩) (fun hHeld => ?_)
      clear hK K
      try simp only [Act.put, List.setIfInBounds_toArray, List.set_cons_zero, List.set_cons_succ]
      refine wpAnyH_take (i := 26) (oi := { dst := some 59, op := Op.binOp BinOp.neq 42 (Operand.tmp 57) (Operand.tmp 58) 42, type := 4, pos := "outright.go:140", after := #[{ on := 24, ground := Ground.data }, { on := 25, ground := Ground.data }, { on := 23, ground := Ground.guard }], guard := some (23, false) }) (v := ?_) rfl (by as_aux_lemma => kernel_rfl) (by as_aux_lemma => kernel_rfl) (by as_aux_lemma => kernel_rfl) (fun _ _ _ h => h) (Or.inl ⟨by rfl, ?_⟩) hHeld ?_
      rotate_left
      · intro w hSw
        clear hSw
        go_simp
        try with_reducible rfl
      try simp only [Act.put, List.setIfInBounds_toArray, List.set_cons_zero, List.set_cons_succ]
      refine wpAnyH_take (i := 27) (oi := { dst := some 60, op := Op.pick (Operand.tmp 56) (Operand.const (Value.bool true)) (Operand.tmp 59), type := 4, pos := "outright.go:140", after := #[{ on := 23, ground := Ground.data }, { on := 26, ground := Ground.data }], guard := none }) (v := ?_) rfl (by as_aux_lemma => kernel_rfl) (by as_aux_lemma => kernel_rfl) (by as_aux_lemma => kernel_rfl) (fun _ _ _ h => h) (Or.inl ⟨by rfl, ?_⟩) hHeld ?_
      rotate_left
      · intro w hSw
        clear hSw
        go_simp
        try with_reducible rfl
      try simp only [Act.put, List.setIfInBounds_toArray, List.set_cons_zero, List.set_cons_succ]
      refine wpAnyH_take (i := 28) (oi := { dst := some 61, op := Op.move (Operand.tmp 60), type := 4, pos := "outright.go:140", after := #[{ on := 27, ground := Ground.data }, { on := 24, ground := Ground.chain }], guard := none }) (v := ?_) rfl (by as_aux_lemma => kernel_rfl) (by as_aux_lemma => kernel_rfl) (by as_aux_lemma => kernel_rfl) (fun _ _ _ h => h) (Or.inl ⟨by rfl, ?_⟩) hHeld ?_
      rotate_left
      · intro w hSw
        clear hSw
        go_simp
        try with_reducible rfl
      try simp only [Act.put, List.setIfInBounds_toArray, List.set_cons_zero, List.set_cons_succ]
      refine wpAnyH_take (i := 30) (oi := { dst := some 63, op := Op.build 42 #[(0, Operand.const (Value.int IntKind.i64 3)), (1, Operand.const (Value.int IntKind.u8 3)), (2, Operand.const (Value.int IntKind.u8 2))], type := 42, pos := "outright.go:140", after := #[{ on := 28, ground := Ground.guard }], guard := some (28, false) }) (v := ?_) rfl (by as_aux_lemma => kernel_rfl) (by as_aux_lemma => kernel_rfl) (by as_aux_lemma => kernel_rfl) (fun _ _ _ h => h) (Or.inl ⟨by rfl, ?_⟩) hHeld ?_
      rotate_left
      · intro w hSw
        clear hSw
        go_simp
        try with_reducible rfl
      try simp only [Act.put, List.setIfInBounds_toArray, List.set_cons_zero, List.set_cons_succ]
      refine wpAnyH_ready (rs := [29]) (by as_aux_lemma => kernel_rfl) (by simp) ?_
      refine AllReadyH.cons (o := { dst := some 62, op := Op.call { callee := Callee.value (Operand.func 27), args := #[Operand.const (Value.int IntKind.u8 64), Operand.const (Value.int IntKind.u8 99), Operand.const (Value.string { data := #[] }), Operand.const (Value.bool true)], argTypes := #[5, 5, 9, 4] }, type := 42, pos := "outright.go:140", after := #[{ on := 28, ground := Ground.chain }, { on := 28, ground := Ground.guard }], guard := some (28, false) }) rfl (fun K hK => ?_) AllReadyH.nil
      go_simp
      refine (HJ6.out _).mono ?_
      rintro e w6 ⟨rfl, hb6⟩
      have HS6 := Lib.hid hHeld
      refine hK.out _ _ (⟨HS6.out.1.below hb6 HS6.out.1.lt, HS6.out.2.1.below hb6 HS6.out.2.1.lt, HS6.out.2.2.1.below hb6 HS6.out.2.2.1.lt, HS6.out.2.2.2.trans (hb6.mono HS6.out.2.2.2.size)⟩) (fun hHeld => ?_)
      clear hK K
      try simp only [Act.put, List.setIfInBounds_toArray, List.set_cons_zero, List.set_cons_succ]
      refine wpAnyH_take (i := 31) (oi := { dst := some 64, op := Op.binOp BinOp.neq 42 (Operand.tmp 62) (Operand.tmp 63) 42, type := 4, pos := "outright.go:140", after := #[{ on := 29, ground := Ground.data }, { on := 30, ground := Ground.data }, { on := 28, ground := Ground.guard }], guard := some (28, false) }) (v := ?_) rfl (by as_aux_lemma => kernel_rfl) (by as_aux_lemma => kernel_rfl) (by as_aux_lemma => kernel_rfl) (fun _ _ _ h => h) (Or.inl ⟨by rfl, ?_⟩) hHeld ?_
      rotate_left
      · intro w hSw
        clear hSw
        go_simp
        try with_reducible rfl
      try simp only [Act.put, List.setIfInBounds_toArray, List.set_cons_zero, List.set_cons_succ]
      refine wpAnyH_take (i := 32) (oi := { dst := some 65, op := Op.pick (Operand.tmp 61) (Operand.const (Value.bool true)) (Operand.tmp 64), type := 4, pos := "outright.go:140", after := #[{ on := 28, ground := Ground.data }, { on := 31, ground := Ground.data }], guard := none }) (v := ?_) rfl (by as_aux_lemma => kernel_rfl) (by as_aux_lemma => kernel_rfl) (by as_aux_lemma => kernel_rfl) (fun _ _ _ h => h) (Or.inl ⟨by rfl, ?_⟩) hHeld ?_
      rotate_left
      · intro w hSw
        clear hSw
        go_simp
        try with_reducible rfl
      try simp only [Act.put, List.setIfInBounds_toArray, List.set_cons_zero, List.set_cons_succ]
      refine wpAnyH_take (i := 33) (oi := { dst := some 66, op := Op.move (Operand.tmp 65), type := 4, pos := "outright.go:140", after := #[{ on := 32, ground := Ground.data }, { on := 29, ground := Ground.chain }], guard := none }) (v := ?_) rfl (by as_aux_lemma => kernel_rfl) (by as_aux_lemma => kernel_rfl) (by as_aux_lemma => kernel_rfl) (fun _ _ _ h => h) (Or.inl ⟨by rfl, ?_⟩) hHeld ?_
      rotate_left
      · intro w hSw
        clear hSw
        go_simp
        try with_reducible rfl
      try simp only [Act.put, List.setIfInBounds_toArray, List.set_cons_zero, List.set_cons_succ]
      refine wpAnyH_take (i := 35) (oi := { dst := some 68, op := Op.load 42 (Operand.tmp 3), type := 42, pos := "outright.go:140", after := #[{ on := 33, ground := Ground.guard }], guard := some (33, false) }) (v := .agg #[.int .i64 0, .int .u8 0, .int .u8 0]) rfl (by as_aux_lemma => kernel_rfl) (by as_aux_lemma => kernel_rfl) (by as_aux_lemma => kernel_rfl) (fun _ _ _ h => h) (yields_verdict (by rfl) _ rfl (w.heap.size + 1 + 1) (by rfl) ⟨0, 0, 0⟩ (fun w h => h.2.2.1)) hHeld ?_
      try simp only [Act.put, List.setIfInBounds_toArray, List.set_cons_zero, List.set_cons_succ]
      refine wpAnyH_ready (rs := [34]) (by as_aux_lemma => kernel_rfl) (by simp) ?_
      refine AllReadyH.cons (o := { dst := some 67, op := Op.call { callee := Callee.value (Operand.func 27), args := #[Operand.const (Value.int IntKind.u8 128), Operand.const (Value.int IntKind.u8 99), Operand.const (Value.string { data := #[] }), Operand.const (Value.bool true)], argTypes := #[5, 5, 9, 4] }, type := 42, pos := "outright.go:140", after := #[{ on := 33, ground := Ground.chain }, { on := 33, ground := Ground.guard }], guard := some (33, false) }) rfl (fun K hK => ?_) AllReadyH.nil
      go_simp
      refine (HJ7.out _).mono ?_
      rintro e w7 ⟨rfl, hb7⟩
      have HS7 := Lib.hid hHeld
      refine hK.out _ _ (⟨HS7.out.1.below hb7 HS7.out.1.lt, HS7.out.2.1.below hb7 HS7.out.2.1.lt, HS7.out.2.2.1.below hb7 HS7.out.2.2.1.lt, HS7.out.2.2.2.trans (hb7.mono HS7.out.2.2.2.size)⟩) (fun hHeld => ?_)
      clear hK K
      try simp only [Act.put, List.setIfInBounds_toArray, List.set_cons_zero, List.set_cons_succ]
      refine wpAnyH_take (i := 36) (oi := { dst := some 69, op := Op.binOp BinOp.neq 42 (Operand.tmp 67) (Operand.tmp 68) 42, type := 4, pos := "outright.go:140", after := #[{ on := 34, ground := Ground.data }, { on := 35, ground := Ground.data }, { on := 33, ground := Ground.guard }], guard := some (33, false) }) (v := ?_) rfl (by as_aux_lemma => kernel_rfl) (by as_aux_lemma => kernel_rfl) (by as_aux_lemma => kernel_rfl) (fun _ _ _ h => h) (Or.inl ⟨by rfl, ?_⟩) hHeld ?_
      rotate_left
      · intro w hSw
        clear hSw
        go_simp
        try with_reducible rfl
      try simp only [Act.put, List.setIfInBounds_toArray, List.set_cons_zero, List.set_cons_succ]
      refine wpAnyH_take (i := 37) (oi := { dst := some 70, op := Op.pick (Operand.tmp 66) (Operand.const (Value.bool true)) (Operand.tmp 69), type := 4, pos := "outright.go:140", after := #[{ on := 33, ground := Ground.data }, { on := 36, ground := Ground.data }], guard := none }) (v := ?_) rfl (by as_aux_lemma => kernel_rfl) (by as_aux_lemma => kernel_rfl) (by as_aux_lemma => kernel_rfl) (fun _ _ _ h => h) (Or.inl ⟨by rfl, ?_⟩) hHeld ?_
      rotate_left
      · intro w hSw
        clear hSw
        go_simp
        try with_reducible rfl
      try simp only [Act.put, List.setIfInBounds_toArray, List.set_cons_zero, List.set_cons_succ]
      refine wpAnyH_take (i := 38) (oi := { dst := some 71, op := Op.move (Operand.tmp 70), type := 4, pos := "outright.go:140", after := #[{ on := 37, ground := Ground.data }, { on := 34, ground := Ground.chain }], guard := none }) (v := ?_) rfl (by as_aux_lemma => kernel_rfl) (by as_aux_lemma => kernel_rfl) (by as_aux_lemma => kernel_rfl) (fun _ _ _ h => h) (Or.inl ⟨by rfl, ?_⟩) hHeld ?_
      rotate_left
      · intro w hSw
        clear hSw
        go_simp
        try with_reducible rfl
      try simp only [Act.put, List.setIfInBounds_toArray, List.set_cons_zero, List.set_cons_succ]
      refine wpAnyH_take (i := 40) (oi := { dst := some 73, op := Op.load 42 (Operand.tmp 2), type := 42, pos := "outright.go:140", after := #[{ on := 38, ground := Ground.guard }], guard := some (38, false) }) (v := .agg #[.int .i64 1, .int .u8 0, .int .u8 0]) rfl (by as_aux_lemma => kernel_rfl) (by as_aux_lemma => kernel_rfl) (by as_aux_lemma => kernel_rfl) (fun _ _ _ h => h) (yields_verdict (by rfl) _ rfl (w.heap.size + 1) (by rfl) ⟨1, 0, 0⟩ (fun w h => h.2.1)) hHeld ?_
      try simp only [Act.put, List.setIfInBounds_toArray, List.set_cons_zero, List.set_cons_succ]
      refine wpAnyH_ready (rs := [39]) (by as_aux_lemma => kernel_rfl) (by simp) ?_
      refine AllReadyH.cons (o := { dst := some 72, op := Op.call { callee := Callee.value (Operand.func 27), args := #[Operand.const (Value.int IntKind.u8 192), Operand.const (Value.int IntKind.u8 7), Operand.const (Value.string { data := #[49, 50, 51, 52, 53, 54, 55] }), Operand.const (Value.bool true)], argTypes := #[5, 5, 9, 4] }, type := 42, pos := "outright.go:140", after := #[{ on := 38, ground := Ground.chain }, { on := 38, ground := Ground.guard }], guard := some (38, false) }) rfl (fun K hK => ?_) AllReadyH.nil
      go_simp
      refine (HJ8.out _).mono ?_
      rintro e w8 ⟨rfl, hb8⟩
      have HS8 := Lib.hid hHeld
      refine hK.out _ _ (⟨HS8.out.1.below hb8 HS8.out.1.lt, HS8.out.2.1.below hb8 HS8.out.2.1.lt, HS8.out.2.2.1.below hb8 HS8.out.2.2.1.lt, HS8.out.2.2.2.trans (hb8.mono HS8.out.2.2.2.size)⟩) (fun hHeld => ?_)
      clear hK K
      try simp only [Act.put, List.setIfInBounds_toArray, List.set_cons_zero, List.set_cons_succ]
      refine wpAnyH_take (i := 41) (oi := { dst := some 74, op := Op.binOp BinOp.neq 42 (Operand.tmp 72) (Operand.tmp 73) 42, type := 4, pos := "outright.go:140", after := #[{ on := 39, ground := Ground.data }, { on := 40, ground := Ground.data }, { on := 38, ground := Ground.guard }], guard := some (38, false) }) (v := ?_) rfl (by as_aux_lemma => kernel_rfl) (by as_aux_lemma => kernel_rfl) (by as_aux_lemma => kernel_rfl) (fun _ _ _ h => h) (Or.inl ⟨by rfl, ?_⟩) hHeld ?_
      rotate_left
      · intro w hSw
        clear hSw
        go_simp
        try with_reducible rfl
      try simp only [Act.put, List.setIfInBounds_toArray, List.set_cons_zero, List.set_cons_succ]
      refine wpAnyH_take (i := 42) (oi := { dst := some 75, op := Op.pick (Operand.tmp 71) (Operand.const (Value.bool true)) (Operand.tmp 74), type := 4, pos := "outright.go:140", after := #[{ on := 38, ground := Ground.data }, { on := 41, ground := Ground.data }], guard := none }) (v := ?_) rfl (by as_aux_lemma => kernel_rfl) (by as_aux_lemma => kernel_rfl) (by as_aux_lemma => kernel_rfl) (fun _ _ _ h => h) (Or.inl ⟨by rfl, ?_⟩) hHeld ?_
      rotate_left
      · intro w hSw
        clear hSw
        go_simp
        try with_reducible rfl
      try simp only [Act.put, List.setIfInBounds_toArray, List.set_cons_zero, List.set_cons_succ]
      refine wpAnyH_take (i := 43) (oi := { dst := some 76, op := Op.move (Operand.tmp 75), type := 4, pos := "outright.go:140", after := #[{ on := 42, ground := Ground.data }, { on := 39, ground := Ground.chain }], guard := none }) (v := ?_) rfl (by as_aux_lemma => kernel_rfl) (by as_aux_lemma => kernel_rfl) (by as_aux_lemma => kernel_rfl) (fun _ _ _ h => h) (Or.inl ⟨by rfl, ?_⟩) hHeld ?_
      rotate_left
      · intro w hSw
        clear hSw
        go_simp
        try with_reducible rfl
      try simp only [Act.put, List.setIfInBounds_toArray, List.set_cons_zero, List.set_cons_succ]
      refine wpAnyH_take (i := 45) (oi := { dst := some 78, op := Op.load 42 (Operand.tmp 2), type := 42, pos := "outright.go:140", after := #[{ on := 43, ground := Ground.guard }], guard := some (43, false) }) (v := .agg #[.int .i64 1, .int .u8 0, .int .u8 0]) rfl (by as_aux_lemma => kernel_rfl) (by as_aux_lemma => kernel_rfl) (by as_aux_lemma => kernel_rfl) (fun _ _ _ h => h) (yields_verdict (by rfl) _ rfl (w.heap.size + 1) (by rfl) ⟨1, 0, 0⟩ (fun w h => h.2.1)) hHeld ?_
      try simp only [Act.put, List.setIfInBounds_toArray, List.set_cons_zero, List.set_cons_succ]
      refine wpAnyH_ready (rs := [44]) (by as_aux_lemma => kernel_rfl) (by simp) ?_
      refine AllReadyH.cons (o := { dst := some 77, op := Op.call { callee := Callee.value (Operand.func 27), args := #[Operand.const (Value.int IntKind.u8 192), Operand.const (Value.int IntKind.u8 7), Operand.const (Value.string { data := #[0, 0, 0, 0, 97, 98, 99, 100] }), Operand.const (Value.bool true)], argTypes := #[5, 5, 9, 4] }, type := 42, pos := "outright.go:140", after := #[{ on := 43, ground := Ground.chain }, { on := 43, ground := Ground.guard }], guard := some (43, false) }) rfl (fun K hK => ?_) AllReadyH.nil
      go_simp
      refine (HJ9.out _).mono ?_
      rintro e w9 ⟨rfl, hb9⟩
      have HS9 := Lib.hid hHeld
      refine hK.out _ _ (⟨HS9.out.1.below hb9 HS9.out.1.lt, HS9.out.2.1.below hb9 HS9.out.2.1.lt, HS9.out.2.2.1.below hb9 HS9.out.2.2.1.lt, HS9.out.2.2.2.trans (hb9.mono HS9.out.2.2.2.size)⟩) (fun hHeld => ?_)
      clear hK K
      try simp only [Act.put, List.setIfInBounds_toArray, List.set_cons_zero, List.set_cons_succ]
      refine wpAnyH_take (i := 46) (oi := { dst := some 79, op := Op.binOp BinOp.neq 42 (Operand.tmp 77) (Operand.tmp 78) 42, type := 4, pos := "outright.go:140", after := #[{ on := 44, ground := Ground.data }, { on := 45, ground := Ground.data }, { on := 43, ground := Ground.guard }], guard := some (43, false) }) (v := ?_) rfl (by as_aux_lemma => kernel_rfl) (by as_aux_lemma => kernel_rfl) (by as_aux_lemma => kernel_rfl) (fun _ _ _ h => h) (Or.inl ⟨by rfl, ?_⟩) hHeld ?_
      rotate_left
      · intro w hSw
        clear hSw
        go_simp
        try with_reducible rfl
      try simp only [Act.put, List.setIfInBounds_toArray, List.set_cons_zero, List.set_cons_succ]
      refine wpAnyH_take (i := 47) (oi := { dst := some 80, op := Op.pick (Operand.tmp 76) (Operand.const (Value.bool true)) (Operand.tmp 79), type := 4, pos := "outright.go:140", after := #[{ on := 43, ground := Ground.data }, { on := 46, ground := Ground.data }], guard := none }) (v := ?_) rfl (by as_aux_lemma => kernel_rfl) (by as_aux_lemma => kernel_rfl) (by as_aux_lemma => kernel_rfl) (fun _ _ _ h => h) (Or.inl ⟨by rfl, ?_⟩) hHeld ?_
      rotate_left
      · intro w hSw
        clear hSw
        go_simp
        try with_reducible rfl
      try simp only [Act.put, List.setIfInBounds_toArray, List.set_cons_zero, List.set_cons_succ]
      refine wpAnyH_take (i := 48) (oi := { dst := some 81, op := Op.move (Operand.tmp 80), type := 4, pos := "outright.go:140", after := #[{ on := 47, ground := Ground.data }, { on := 44, ground := Ground.chain }], guard := none }) (v := ?_) rfl (by as_aux_lemma => kernel_rfl) (by as_aux_lemma => kernel_rfl) (by as_aux_lemma => kernel_rfl) (fun _ _ _ h => h) (Or.inl ⟨by rfl, ?_⟩) hHeld ?_
      rotate_left
      · intro w hSw
        clear hSw
        go_simp
        try with_reducible rfl
      try simp only [Act.put, List.setIfInBounds_toArray, List.set_cons_zero, List.set_cons_succ]
      refine wpAnyH_take (i := 50) (oi := { dst := some 83, op := Op.load 42 (Operand.tmp 2), type := 42, pos := "outright.go:140", after := #[{ on := 48, ground := Ground.guard }], guard := some (48, false) }) (v := .agg #[.int .i64 1, .int .u8 0, .int .u8 0]) rfl (by as_aux_lemma => kernel_rfl) (by as_aux_lemma => kernel_rfl) (by as_aux_lemma => kernel_rfl) (fun _ _ _ h => h) (yields_verdict (by rfl) _ rfl (w.heap.size + 1) (by rfl) ⟨1, 0, 0⟩ (fun w h => h.2.1)) hHeld ?_
      try simp only [Act.put, List.setIfInBounds_toArray, List.set_cons_zero, List.set_cons_succ]
      refine wpAnyH_ready (rs := [49]) (by as_aux_lemma => kernel_rfl) (by simp) ?_
      refine AllReadyH.cons (o := { dst := some 82, op := Op.call { callee := Callee.value (Operand.func 27), args := #[Operand.const (Value.int IntKind.u8 64), Operand.const (Value.int IntKind.u8 6), Operand.const (Value.string { data := #[97] }), Operand.const (Value.bool true)], argTypes := #[5, 5, 9, 4] }, type := 42, pos := "outright.go:140", after := #[{ on := 48, ground := Ground.chain }, { on := 48, ground := Ground.guard }], guard := some (48, false) }) rfl (fun K hK => ?_) AllReadyH.nil
      go_simp
      refine (HJ10.out _).mono ?_
      rintro e w10 ⟨rfl, hb10⟩
      have HS10 := Lib.hid hHeld
      refine hK.out _ _ (⟨HS10.out.1.below hb10 HS10.out.1.lt, HS10.out.2.1.below hb10 HS10.out.2.1.lt, HS10.out.2.2.1.below hb10 HS10.out.2.2.1.lt, HS10.out.2.2.2.trans (hb10.mono HS10.out.2.2.2.size)⟩) (fun hHeld => ?_)
      clear hK K
      try simp only [Act.put, List.setIfInBounds_toArray, List.set_cons_zero, List.set_cons_succ]
      refine wpAnyH_take (i := 51) (oi := { dst := some 84, op := Op.binOp BinOp.neq 42 (Operand.tmp 82) (Operand.tmp 83) 42, type := 4, pos := "outright.go:140", after := #[{ on := 49, ground := Ground.data }, { on := 50, ground := Ground.data }, { on := 48, ground := Ground.guard }], guard := some (48, false) }) (v := ?_) rfl (by as_aux_lemma => kernel_rfl) (by as_aux_lemma => kernel_rfl) (by as_aux_lemma => kernel_rfl) (fun _ _ _ h => h) (Or.inl ⟨by rfl, ?_⟩) hHeld ?_
      rotate_left
      · intro w hSw
        clear hSw
        go_simp
        try with_reducible rfl
      try simp only [Act.put, List.setIfInBounds_toArray, List.set_cons_zero, List.set_cons_succ]
      refine wpAnyH_take (i := 52) (oi := { dst := some 85, op := Op.pick (Operand.tmp 81) (Operand.const (Value.bool true)) (Operand.tmp 84), type := 4, pos := "outright.go:140", after := #[{ on := 48, ground := Ground.data }, { on := 51, ground := Ground.data }], guard := none }) (v := ?_) rfl (by as_aux_lemma => kernel_rfl) (by as_aux_lemma => kernel_rfl) (by as_aux_lemma => kernel_rfl) (fun _ _ _ h => h) (Or.inl ⟨by rfl, ?_⟩) hHeld ?_
      rotate_left
      · intro w hSw
        clear hSw
        go_simp
        try with_reducible rfl
      try simp only [Act.put, List.setIfInBounds_toArray, List.set_cons_zero, List.set_cons_succ]
      refine wpAnyH_take (i := 53) (oi := { dst := some 86, op := Op.move (Operand.tmp 85), type := 4, pos := "outright.go:140", after := #[{ on := 52, ground := Ground.data }, { on := 49, ground := Ground.chain }], guard := none }) (v := ?_) rfl (by as_aux_lemma => kernel_rfl) (by as_aux_lemma => kernel_rfl) (by as_aux_lemma => kernel_rfl) (fun _ _ _ h => h) (Or.inl ⟨by rfl, ?_⟩) hHeld ?_
      rotate_left
      · intro w hSw
        clear hSw
        go_simp
        try with_reducible rfl
      try simp only [Act.put, List.setIfInBounds_toArray, List.set_cons_zero, List.set_cons_succ]
      refine wpAnyH_take (i := 55) (oi := { dst := some 88, op := Op.load 42 (Operand.tmp 1), type := 42, pos := "outright.go:140", after := #[{ on := 53, ground := Ground.guard }], guard := some (53, false) }) (v := .agg #[.int .i64 2, .int .u8 0, .int .u8 0]) rfl (by as_aux_lemma => kernel_rfl) (by as_aux_lemma => kernel_rfl) (by as_aux_lemma => kernel_rfl) (fun _ _ _ h => h) (yields_verdict (by rfl) _ rfl w.heap.size (by rfl) ⟨2, 0, 0⟩ (fun w h => h.1)) hHeld ?_
      try simp only [Act.put, List.setIfInBounds_toArray, List.set_cons_zero, List.set_cons_succ]
      refine wpAnyH_ready (rs := [54]) (by as_aux_lemma => kernel_rfl) (by simp) ?_
      refine AllReadyH.cons (o := { dst := some 87, op := Op.call { callee := Callee.value (Operand.func 27), args := #[Operand.const (Value.int IntKind.u8 192), Operand.const (Value.int IntKind.u8 6), Operand.const (Value.string { data := #[] }), Operand.const (Value.bool true)], argTypes := #[5, 5, 9, 4] }, type := 42, pos := "outright.go:140", after := #[{ on := 53, ground := Ground.chain }, { on := 53, ground := Ground.guard }], guard := some (53, false) }) rfl (fun K hK => ?_) AllReadyH.nil
      go_simp
      refine (HJ11.out _).mono ?_
      rintro e w11 ⟨rfl, hb11⟩
      have HS11 := Lib.hid hHeld
      refine hK.out _ _ (⟨HS11.out.1.below hb11 HS11.out.1.lt, HS11.out.2.1.below hb11 HS11.out.2.1.lt, HS11.out.2.2.1.below hb11 HS11.out.2.2.1.lt, HS11.out.2.2.2.trans (hb11.mono HS11.out.2.2.2.size)⟩) (fun hHeld => ?_)
      clear hK K
      try simp only [Act.put, List.setIfInBounds_toArray, List.set_cons_zero, List.set_cons_succ]
      refine wpAnyH_take (i := 56) (oi := { dst := some 89, op := Op.binOp BinOp.neq 42 (Operand.tmp 87) (Operand.tmp 88) 42, type := 4, pos := "outright.go:140", after := #[{ on := 54, ground := Ground.data }, { on := 55, ground := Ground.data }, { on := 53, ground := Ground.guard }], guard := some (53, false) }) (v := ?_) rfl (by as_aux_lemma => kernel_rfl) (by as_aux_lemma => kernel_rfl) (by as_aux_lemma => kernel_rfl) (fun _ _ _ h => h) (Or.inl ⟨by rfl, ?_⟩) hHeld ?_
      rotate_left
      · intro w hSw
        clear hSw
        go_simp
        try with_reducible rfl
      try simp only [Act.put, List.setIfInBounds_toArray, List.set_cons_zero, List.set_cons_succ]
      refine wpAnyH_take (i := 57) (oi := { dst := some 90, op := Op.pick (Operand.tmp 86) (Operand.const (Value.bool true)) (Operand.tmp 89), type := 4, pos := "outright.go:140", after := #[{ on := 53, ground := Ground.data }, { on := 56, ground := Ground.data }], guard := none }) (v := ?_) rfl (by as_aux_lemma => kernel_rfl) (by as_aux_lemma => kernel_rfl) (by as_aux_lemma => kernel_rfl) (fun _ _ _ h => h) (Or.inl ⟨by rfl, ?_⟩) hHeld ?_
      rotate_left
      · intro w hSw
        clear hSw
        go_simp
        try with_reducible rfl
      try simp only [Act.put, List.setIfInBounds_toArray, List.set_cons_zero, List.set_cons_succ]
      refine wpAnyH_take (i := 58) (oi := { dst := some 91, op := Op.move (Operand.tmp 90), type := 4, pos := "outright.go:140", after := #[{ on := 57, ground := Ground.data }, { on := 54, ground := Ground.chain }], guard := none }) (v := ?_) rfl (by as_aux_lemma => kernel_rfl) (by as_aux_lemma => kernel_rfl) (by as_aux_lemma => kernel_rfl) (fun _ _ _ h => h) (Or.inl ⟨by rfl, ?_⟩) hHeld ?_
      rotate_left
      · intro w hSw
        clear hSw
        go_simp
        try with_reducible rfl
      try simp only [Act.put, List.setIfInBounds_toArray, List.set_cons_zero, List.set_cons_succ]
      refine wpAnyH_take (i := 60) (oi := { dst := some 93, op := Op.load 42 (Operand.tmp 1), type := 42, pos := "outright.go:140", after := #[{ on := 58, ground := Ground.guard }], guard := some (58, false) }) (v := .agg #[.int .i64 2, .int .u8 0, .int .u8 0]) rfl (by as_aux_lemma => kernel_rfl) (by as_aux_lemma => kernel_rfl) (by as_aux_lemma => kernel_rfl) (fun _ _ _ h => h) (yields_verdict (by rfl) _ rfl w.heap.size (by rfl) ⟨2, 0, 0⟩ (fun w h => h.1)) hHeld ?_
      try simp only [Act.put, List.setIfInBounds_toArray, List.set_cons_zero, List.set_cons_succ]
      refine wpAnyH_ready (rs := [59]) (by as_aux_lemma => kernel_rfl) (by simp) ?_
      refine AllReadyH.cons (o := { dst := some 92, op := Op.call { callee := Callee.value (Operand.func 27), args := #[Operand.const (Value.int IntKind.u8 192), Operand.const (Value.int IntKind.u8 8), Operand.const (Value.string { data := #[] }), Operand.const (Value.bool true)], argTypes := #[5, 5, 9, 4] }, type := 42, pos := "outright.go:140", after := #[{ on := 58, ground := Ground.chain }, { on := 58, ground := Ground.guard }], guard := some (58, false) }) rfl (fun K hK => ?_) AllReadyH.nil
      go_simp
      refine (HJ12.out _).mono ?_
      rintro e w12 ⟨rfl, hb12⟩
      have HS12 := Lib.hid hHeld
      refine hK.out _ _ (⟨HS12.out.1.below hb12 HS12.out.1.lt, HS12.out.2.1.below hb12 HS12.out.2.1.lt, HS12.out.2.2.1.below hb12 HS12.out.2.2.1.lt, HS12.out.2.2.2.trans (hb12.mono HS12.out.2.2.2.size)⟩) (fun hHeld => ?_)
      clear hK K
      try simp only [Act.put, List.setIfInBounds_toArray, List.set_cons_zero, List.set_cons_succ]
      refine wpAnyH_take (i := 61) (oi := { dst := some 94, op := Op.binOp BinOp.neq 42 (Operand.tmp 92) (Operand.tmp 93) 42, type := 4, pos := "outright.go:140", after := #[{ on := 59, ground := Ground.data }, { on := 60, ground := Ground.data }, { on := 58, ground := Ground.guard }], guard := some (58, false) }) (v := ?_) rfl (by as_aux_lemma => kernel_rfl) (by as_aux_lemma => kernel_rfl) (by as_aux_lemma => kernel_rfl) (fun _ _ _ h => h) (Or.inl ⟨by rfl, ?_⟩) hHeld ?_
      rotate_left
      · intro w hSw
        clear hSw
        go_simp
        try with_reducible rfl
      try simp only [Act.put, List.setIfInBounds_toArray, List.set_cons_zero, List.set_cons_succ]
      refine wpAnyH_take (i := 62) (oi := { dst := some 95, op := Op.pick (Operand.tmp 91) (Operand.const (Value.bool true)) (Operand.tmp 94), type := 4, pos := "outright.go:140", after := #[{ on := 58, ground := Ground.data }, { on := 61, ground := Ground.data }], guard := none }) (v := ?_) rfl (by as_aux_lemma => kernel_rfl) (by as_aux_lemma => kernel_rfl) (by as_aux_lemma => kernel_rfl) (fun _ _ _ h => h) (Or.inl ⟨by rfl, ?_⟩) hHeld ?_
      rotate_left
      · intro w hSw
        clear hSw
        go_simp
        try with_reducible rfl
      try simp only [Act.put, List.setIfInBounds_toArray, List.set_cons_zero, List.set_cons_succ]
      refine wpAnyH_take (i := 63) (oi := { dst := some 96, op := Op.move (Operand.tmp 95), type := 4, pos := "outright.go:140", after := #[{ on := 62, ground := Ground.data }, { on := 59, ground := Ground.chain }], guard := none }) (v := ?_) rfl (by as_aux_lemma => kernel_rfl) (by as_aux_lemma => kernel_rfl) (by as_aux_lemma => kernel_rfl) (fun _ _ _ h => h) (Or.inl ⟨by rfl, ?_⟩) hHeld ?_
      rotate_left
      · intro w hSw
        clear hSw
        go_simp
        try with_reducible rfl
      try simp only [Act.put, List.setIfInBounds_toArray, List.set_cons_zero, List.set_cons_succ]
      refine wpAnyH_take (i := 65) (oi := { dst := some 98, op := Op.load 42 (Operand.tmp 1), type := 42, pos := "outright.go:140", after := #[{ on := 63, ground := Ground.guard }], guard := some (63, false) }) (v := .agg #[.int .i64 2, .int .u8 0, .int .u8 0]) rfl (by as_aux_lemma => kernel_rfl) (by as_aux_lemma => kernel_rfl) (by as_aux_lemma => kernel_rfl) (fun _ _ _ h => h) (yields_verdict (by rfl) _ rfl w.heap.size (by rfl) ⟨2, 0, 0⟩ (fun w h => h.1)) hHeld ?_
      try simp only [Act.put, List.setIfInBounds_toArray, List.set_cons_zero, List.set_cons_succ]
      refine wpAnyH_ready (rs := [64]) (by as_aux_lemma => kernel_rfl) (by simp) ?_
      refine AllReadyH.cons (o := { dst := some 97, op := Op.call { callee := Callee.value (Operand.func 27), args := #[Operand.const (Value.int IntKind.u8 192), Operand.const (Value.int IntKind.u8 32), Operand.const (Value.string { data := #[49, 50, 51, 52, 53, 54, 55, 56] }), Operand.const (Value.bool true)], argTypes := #[5, 5, 9, 4] }, type := 42, pos := "outright.go:140", after := #[{ on := 63, ground := Ground.chain }, { on := 63, ground := Ground.guard }], guard := some (63, false) }) rfl (fun K hK => ?_) AllReadyH.nil
      go_simp
      refine (HJ13.out _).mono ?_
      rintro e w13 ⟨rfl, hb13⟩
      have HS13 := Lib.hid hHeld
      refine hK.out _ _ (⟨HS13.out.1.below hb13 HS13.out.1.lt, HS13.out.2.1.below hb13 HS13.out.2.1.lt, HS13.out.2.2.1.below hb13 HS13.out.2.2.1.lt, HS13.out.2.2.2.trans (hb13.mono HS13.out.2.2.2.size)⟩) (fun hHeld => ?_)
      clear hK K
      try simp only [Act.put, List.setIfInBounds_toArray, List.set_cons_zero, List.set_cons_succ]
      refine wpAnyH_take (i := 66) (oi := { dst := some 99, op := Op.binOp BinOp.neq 42 (Operand.tmp 97) (Operand.tmp 98) 42, type := 4, pos := "outright.go:140", after := #[{ on := 64, ground := Ground.data }, { on := 65, ground := Ground.data }, { on := 63, ground := Ground.guard }], guard := some (63, false) }) (v := ?_) rfl (by as_aux_lemma => kernel_rfl) (by as_aux_lemma => kernel_rfl) (by as_aux_lemma => kernel_rfl) (fun _ _ _ h => h) (Or.inl ⟨by rfl, ?_⟩) hHeld ?_
      rotate_left
      · intro w hSw
        clear hSw
        go_simp
        try with_reducible rfl
      try simp only [Act.put, List.setIfInBounds_toArray, List.set_cons_zero, List.set_cons_succ]
      refine wpAnyH_take (i := 67) (oi := { dst := some 100, op := Op.pick (Operand.tmp 96) (Operand.const (Value.bool true)) (Operand.tmp 99), type := 4, pos := "outright.go:140", after := #[{ on := 63, ground := Ground.data }, { on := 66, ground := Ground.data }], guard := none }) (v := ?_) rfl (by as_aux_lemma => kernel_rfl) (by as_aux_lemma => kernel_rfl) (by as_aux_lemma => kernel_rfl) (fun _ _ _ h => h) (Or.inl ⟨by rfl, ?_⟩) hHeld ?_
      rotate_left
      · intro w hSw
        clear hSw
        go_simp
        try with_reducible rfl
      try simp only [Act.put, List.setIfInBounds_toArray, List.set_cons_zero, List.set_cons_succ]
      refine wpAnyH_take (i := 68) (oi := { dst := some 101, op := Op.move (Operand.tmp 100), type := 4, pos := "outright.go:140", after := #[{ on := 67, ground := Ground.data }, { on := 64, ground := Ground.chain }], guard := none }) (v := ?_) rfl (by as_aux_lemma => kernel_rfl) (by as_aux_lemma => kernel_rfl) (by as_aux_lemma => kernel_rfl) (fun _ _ _ h => h) (Or.inl ⟨by rfl, ?_⟩) hHeld ?_
      rotate_left
      · intro w hSw
        clear hSw
        go_simp
        try with_reducible rfl
      try simp only [Act.put, List.setIfInBounds_toArray, List.set_cons_zero, List.set_cons_succ]
      refine wpAnyH_take (i := 70) (oi := { dst := some 103, op := Op.load 42 (Operand.tmp 3), type := 42, pos := "outright.go:140", after := #[{ on := 68, ground := Ground.guard }], guard := some (68, false) }) (v := .agg #[.int .i64 0, .int .u8 0, .int .u8 0]) rfl (by as_aux_lemma => kernel_rfl) (by as_aux_lemma => kernel_rfl) (by as_aux_lemma => kernel_rfl) (fun _ _ _ h => h) (yields_verdict (by rfl) _ rfl (w.heap.size + 1 + 1) (by rfl) ⟨0, 0, 0⟩ (fun w h => h.2.2.1)) hHeld ?_
      try simp only [Act.put, List.setIfInBounds_toArray, List.set_cons_zero, List.set_cons_succ]
      refine wpAnyH_ready (rs := [69]) (by as_aux_lemma => kernel_rfl) (by simp) ?_
      refine AllReadyH.cons (o := { dst := some 102, op := Op.call { callee := Callee.value (Operand.func 27), args := #[Operand.const (Value.int IntKind.u8 96), Operand.const (Value.int IntKind.u8 6), Operand.const (Value.string { data := #[] }), Operand.const (Value.bool true)], argTypes := #[5, 5, 9, 4] }, type := 42, pos := "outright.go:140", after := #[{ on := 68, ground := Ground.chain }, { on := 68, ground := Ground.guard }], guard := some (68, false) }) rfl (fun K hK => ?_) AllReadyH.nil
      go_simp
      refine (HJ14.out _).mono ?_
      rintro e w14 ⟨rfl, hb14⟩
      have HS14 := Lib.hid hHeld
      refine hK.out _ _ (⟨HS14.out.1.below hb14 HS14.out.1.lt, HS14.out.2.1.below hb14 HS14.out.2.1.lt, HS14.out.2.2.1.below hb14 HS14.out.2.2.1.lt, HS14.out.2.2.2.trans (hb14.mono HS14.out.2.2.2.size)⟩) (fun hHeld => ?_)
      clear hK K
      try simp only [Act.put, List.setIfInBounds_toArray, List.set_cons_zero, List.set_cons_succ]
      refine wpAnyH_take (i := 71) (oi := { dst := some 104, op := Op.binOp BinOp.neq 42 (Operand.tmp 102) (Operand.tmp 103) 42, type := 4, pos := "outright.go:140", after := #[{ on := 69, ground := Ground.data }, { on := 70, ground := Ground.data }, { on := 68, ground := Ground.guard }], guard := some (68, false) }) (v := ?_) rfl (by as_aux_lemma => kernel_rfl) (by as_aux_lemma => kernel_rfl) (by as_aux_lemma => kernel_rfl) (fun _ _ _ h => h) (Or.inl ⟨by rfl, ?_⟩) hHeld ?_
      rotate_left
      · intro w hSw
        clear hSw
        go_simp
        try with_reducible rfl
      try simp only [Act.put, List.setIfInBounds_toArray, List.set_cons_zero, List.set_cons_succ]
      refine wpAnyH_take (i := 72) (oi := { dst := some 105, op := Op.pick (Operand.tmp 101) (Operand.const (Value.bool true)) (Operand.tmp 104), type := 4, pos := "outright.go:140", after := #[{ on := 68, ground := Ground.data }, { on := 71, ground := Ground.data }], guard := none }) (v := ?_) rfl (by as_aux_lemma => kernel_rfl) (by as_aux_lemma => kernel_rfl) (by as_aux_lemma => kernel_rfl) (fun _ _ _ h => h) (Or.inl ⟨by rfl, ?_⟩) hHeld ?_
      rotate_left
      · intro w hSw
        clear hSw
        go_simp
        try with_reducible rfl
      try simp only [Act.put, List.setIfInBounds_toArray, List.set_cons_zero, List.set_cons_succ]
      refine wpAnyH_take (i := 73) (oi := { dst := some 106, op := Op.move (Operand.tmp 105), type := 4, pos := "outright.go:140", after := #[{ on := 72, ground := Ground.data }, { on := 69, ground := Ground.chain }], guard := none }) (v := ?_) rfl (by as_aux_lemma => kernel_rfl) (by as_aux_lemma => kernel_rfl) (by as_aux_lemma => kernel_rfl) (fun _ _ _ h => h) (Or.inl ⟨by rfl, ?_⟩) hHeld ?_
      rotate_left
      · intro w hSw
        clear hSw
        go_simp
        try with_reducible rfl
      try simp only [Act.put, List.setIfInBounds_toArray, List.set_cons_zero, List.set_cons_succ]
      refine wpAnyH_take (i := 75) (oi := { dst := some 108, op := Op.load 42 (Operand.tmp 3), type := 42, pos := "outright.go:140", after := #[{ on := 73, ground := Ground.guard }], guard := some (73, false) }) (v := .agg #[.int .i64 0, .int .u8 0, .int .u8 0]) rfl (by as_aux_lemma => kernel_rfl) (by as_aux_lemma => kernel_rfl) (by as_aux_lemma => kernel_rfl) (fun _ _ _ h => h) (yields_verdict (by rfl) _ rfl (w.heap.size + 1 + 1) (by rfl) ⟨0, 0, 0⟩ (fun w h => h.2.2.1)) hHeld ?_
      try simp only [Act.put, List.setIfInBounds_toArray, List.set_cons_zero, List.set_cons_succ]
      refine wpAnyH_ready (rs := [74]) (by as_aux_lemma => kernel_rfl) (by simp) ?_
      refine AllReadyH.cons (o := { dst := some 107, op := Op.call { callee := Callee.value (Operand.func 27), args := #[Operand.const (Value.int IntKind.u8 64), Operand.const (Value.int IntKind.u8 2), Operand.const (Value.string { data := #[] }), Operand.const (Value.bool true)], argTypes := #[5, 5, 9, 4] }, type := 42, pos := "outright.go:140", after := #[{ on := 73, ground := Ground.chain }, { on := 73, ground := Ground.guard }], guard := some (73, false) }) rfl (fun K hK => ?_) AllReadyH.nil
      go_simp
      refine (HJ15.out _).mono ?_
      rintro e w15 ⟨rfl, hb15⟩
      have HS15 := Lib.hid hHeld
      refine hK.out _ _ (⟨HS15.out.1.below hb15 HS15.out.1.lt, HS15.out.2.1.below hb15 HS15.out.2.1.lt, HS15.out.2.2.1.below hb15 HS15.out.2.2.1.lt, HS15.out.2.2.2.trans (hb15.mono HS15.out.2.2.2.size)⟩) (fun hHeld => ?_)
      clear hK K
      try simp only [Act.put, List.setIfInBounds_toArray, List.set_cons_zero, List.set_cons_succ]
      refine wpAnyH_take (i := 76) (oi := { dst := some 109, op := Op.binOp BinOp.neq 42 (Operand.tmp 107) (Operand.tmp 108) 42, type := 4, pos := "outright.go:140", after := #[{ on := 74, ground := Ground.data }, { on := 75, ground := Ground.data }, { on := 73, ground := Ground.guard }], guard := some (73, false) }) (v := ?_) rfl (by as_aux_lemma => kernel_rfl) (by as_aux_lemma => kernel_rfl) (by as_aux_lemma => kernel_rfl) (fun _ _ _ h => h) (Or.inl ⟨by rfl, ?_⟩) hHeld ?_
      rotate_left
      · intro w hSw
        clear hSw
        go_simp
        try with_reducible rfl
      try simp only [Act.put, List.setIfInBounds_toArray, List.set_cons_zero, List.set_cons_succ]
      refine wpAnyH_take (i := 77) (oi := { dst := some 110, op := Op.pick (Operand.tmp 106) (Operand.const (Value.bool true)) (Operand.tmp 109), type := 4, pos := "outright.go:140", after := #[{ on := 73, ground := Ground.data }, { on := 76, ground := Ground.data }], guard := none }) (v := ?_) rfl (by as_aux_lemma => kernel_rfl) (by as_aux_lemma => kernel_rfl) (by as_aux_lemma => kernel_rfl) (fun _ _ _ h => h) (Or.inl ⟨by rfl, ?_⟩) hHeld ?_
      rotate_left
      · intro w hSw
        clear hSw
        go_simp
        try with_reducible rfl
      try simp only [Act.put, List.setIfInBounds_toArray, List.set_cons_zero, List.set_cons_succ]
      refine wpAnyH_done (by as_aux_lemma => kernel_rfl) ?_ _
      have HE := Lib.hid hHeld
      clear hHeld
      go_wp2_with fail
      go_meet
      exact ⟨rfl, HE.out⟩
  case rest =>
  obtain ⟨rfl, HF⟩ := hcut
  clear HA1 HA2 HA3 HB0 HJ0 HJ1 HJ2 HJ3 HJ4 HJ5 HJ6 HJ7 HJ8 HJ9 HJ10 HJ11 HJ12 HJ13 HJ14 HJ15
  obtain ⟨wa, hwa⟩ : ∃ x, x = wc := ⟨_, rfl⟩
  subst hwa
  obtain ⟨g1, hg1⟩ : ∃ g, g = w.heap.size := ⟨_, rfl⟩
  have HG1 : Hid (g1 = w.heap.size) := hg1
  rw [← hg1] at HF ⊢
  have hg : g1 + 1 + 1 < wa.heap.size := HF.out.2.2.1.lt
  clear hg1
  have HRE0 : Hid (∀ (g : Nat) (W : World) (cs : Array Value), CellsAt W g cs 32 → cs = (List.flatMap Rw.cs [⟨64, 1, (ByteArray.mk #[1])⟩, ⟨64, 1, (ByteArray.mk #[7])⟩]).toArray → Calls Tryz.prog 19 #[.slice (some ⟨g, 0, none⟩) 2 2, .bool true, .bool true] W fun e w' => (∃ a : Atr, e = .returned (.tuple #[.agg a.ar, .agg #[.int .i64 0, .int .u8 0, .int .u8 0]]) ∧ AtrOk w' a) ∧ Below W.heap.size W w') := fun g W cs h hcs => kread [⟨64, 1, (ByteArray.mk #[1])⟩, ⟨64, 1, (ByteArray.mk #[7])⟩] ⟨0, 0, 0⟩ (by kernel_rfl) (by decide) (by decide) g W cs h hcs
  go_wp2_with fail
  refine (HRE0.out _ _ _ (CellsAt.new _ _ _) rfl).mono ?_
  rintro e r0 ⟨⟨a0, rfl, ha0⟩, hb⟩
  have HBR0 : Hid (Below wa.heap.size wa r0) := ((Below.refl _ _).alloc (Nat.le_refl _) _).trans (hb.mono (by simp))
  clear hb ha0 HRE0
  go_upto_region 7 with (with_reducible show wpList _ _ _ (_ :: _) _ _; first | refine wpList_store_attrs rfl (.tmp 4) (.tmp 116) rfl r0.heap.size rfl a0 rfl noAtr (rd_z _ _) ?_ | refine wpList_store_verdict rfl (.tmp 5) (.tmp 117) rfl (r0.heap.size + 1) rfl ⟨0, 0, 0⟩ rfl ⟨0, 0, 0⟩ (rd_y _ _ _) ?_)
  refine wp_name fun U0 hU => ?_
  have HBU0 : Hid (Below wa.heap.size wa U0) := by rw [hU]; exact HBR0.out.trans ((rd_b _ _ _ ⟨0, 0, 0⟩).mono HBR0.out.size)
  have HVU0 : Hid (CellsAt U0 (r0.heap.size + 1) #[.int .i64 0, .int .u8 0, .int .u8 0] 42) := by rw [hU]; exact rd_v _ _ _ ⟨0, 0, 0⟩
  clear hU HBR0
  have HRE1 : Hid (∀ (g : Nat) (W : World) (cs : Array Value), CellsAt W g cs 32 → cs = (List.flatMap Rw.cs [⟨0, 14, (ByteArray.mk #[])⟩, ⟨0, 14, (ByteArray.mk #[])⟩, ⟨0, 99, (ByteArray.mk #[])⟩]).toArray → Calls Tryz.prog 19 #[.slice (some ⟨g, 0, none⟩) 3 3, .bool true, .bool true] W fun e w' => (∃ a : Atr, e = .returned (.tuple #[.agg a.ar, .agg #[.int .i64 3, .int .u8 3, .int .u8 1]]) ∧ AtrOk w' a) ∧ Below W.heap.size W w') := fun g W cs h hcs => kread [⟨0, 14, (ByteArray.mk #[])⟩, ⟨0, 14, (ByteArray.mk #[])⟩, ⟨0, 99, (ByteArray.mk #[])⟩] ⟨3, 3, 1⟩ (by kernel_rfl) (by decide) (by decide) g W cs h hcs
  go_wp2_with fail
  refine (HRE1.out _ _ _ (CellsAt.new _ _ _) rfl).mono ?_
  rintro e r1 ⟨⟨a1, rfl, ha1⟩, hb⟩
  have HBR1 : Hid (Below U0.heap.size U0 r1) := ((Below.refl _ _).alloc (Nat.le_refl _) _).trans (hb.mono (by simp))
  clear hb ha1 HRE1
  go_upto_region 8 with (with_reducible show wpList _ _ _ (_ :: _) _ _; first | refine wpList_store_attrs rfl (.tmp 6) (.tmp 124) rfl r1.heap.size rfl a1 rfl noAtr (rd_z _ _) ?_ | refine wpList_store_verdict rfl (.tmp 7) (.tmp 125) rfl (r1.heap.size + 1) rfl ⟨3, 3, 1⟩ rfl ⟨0, 0, 0⟩ (rd_y _ _ _) ?_)
  refine wp_name fun U1 hU => ?_
  have HBU1 : Hid (Below U0.heap.size U0 U1) := by rw [hU]; exact HBR1.out.trans ((rd_b _ _ _ ⟨3, 3, 1⟩).mono HBR1.out.size)
  have HVU1 : Hid (CellsAt U1 (r1.heap.size + 1) #[.int .i64 3, .int .u8 3, .int .u8 1] 42) := by rw [hU]; exact rd_v _ _ _ ⟨3, 3, 1⟩
  clear hU HBR1
  have HVU0_1 := Lib.hid (HVU0.out.below HBU1.out HVU0.out.lt)
  clear HVU0
  have HRE2 : Hid (∀ (g : Nat) (W : World) (cs : Array Value), CellsAt W g cs 32 → cs = (List.flatMap Rw.cs [⟨192, 7, (ByteArray.mk #[])⟩, ⟨64, 6, (ByteArray.mk #[97])⟩, ⟨128, 4, (ByteArray.mk #[97, 98, 99, 100, 101])⟩]).toArray → Calls Tryz.prog 19 #[.slice (some ⟨g, 0, none⟩) 3 3, .bool true, .bool true] W fun e w' => (∃ a : Atr, e = .returned (.tuple #[.agg a.ar, .agg #[.int .i64 2, .int .u8 0, .int .u8 0]]) ∧ AtrOk w' a) ∧ Below W.heap.size W w') := fun g W cs h hcs => kread [⟨192, 7, (ByteArray.mk #[])⟩, ⟨64, 6, (ByteArray.mk #[97])⟩, ⟨128, 4, (ByteArray.mk #[97, 98, 99, 100, 101])⟩] ⟨2, 0, 0⟩ (by kernel_rfl) (by decide) (by decide) g W cs h hcs
  go_wp2_with fail
  refine (HRE2.out _ _ _ (CellsAt.new _ _ _) rfl).mono ?_
  rintro e r2 ⟨⟨a2, rfl, ha2⟩, hb⟩
  have HBR2 : Hid (Below U1.heap.size U1 r2) := ((Below.refl _ _).alloc (Nat.le_refl _) _).trans (hb.mono (by simp))
  clear hb ha2 HRE2
  go_upto_region 9 with (with_reducible show wpList _ _ _ (_ :: _) _ _; first | refine wpList_store_attrs rfl (.tmp 8) (.tmp 132) rfl r2.heap.size rfl a2 rfl noAtr (rd_z _ _) ?_ | refine wpList_store_verdict rfl (.tmp 9) (.tmp 133) rfl (r2.heap.size + 1) rfl ⟨2, 0, 0⟩ rfl ⟨0, 0, 0⟩ (rd_y _ _ _) ?_)
  refine wp_name fun U2 hU => ?_
  have HBU2 : Hid (Below U1.heap.size U1 U2) := by rw [hU]; exact HBR2.out.trans ((rd_b _ _ _ ⟨2, 0, 0⟩).mono HBR2.out.size)
  have HVU2 : Hid (CellsAt U2 (r2.heap.size + 1) #[.int .i64 2, .int .u8 0, .int .u8 0] 42) := by rw [hU]; exact rd_v _ _ _ ⟨2, 0, 0⟩
  clear hU HBR2
  have HVU0_2 := Lib.hid (HVU0_1.out.below HBU2.out HVU0_1.out.lt)
  clear HVU0_1
  have HVU1_2 := Lib.hid (HVU1.out.below HBU2.out HVU1.out.lt)
  clear HVU1
  have HFU : Hid (CellsAt U2 g1 #[.int .i64 2, .int .u8 0, .int .u8 0] 42 ∧ CellsAt U2 (g1 + 1 + 1) #[.int .i64 0, .int .u8 0, .int .u8 0] 42 ∧ Below g1 w U2) := by
    have hb := HBU0.out.trans ((HBU1.out.mono HBU0.out.size).trans (HBU2.out.mono (Nat.le_trans HBU0.out.size HBU1.out.size)))
    exact ⟨HF.out.1.below hb HF.out.1.lt, HF.out.2.2.1.below hb hg, HF.out.2.2.2.trans (hb.mono (by omega))⟩
  obtain ⟨b5, h5⟩ : ∃ b, b = r0.heap.size + 1 := ⟨_, rfl⟩
  obtain ⟨b7, h7⟩ : ∃ b, b = r1.heap.size + 1 := ⟨_, rfl⟩
  obtain ⟨b9, h9⟩ : ∃ b, b = r2.heap.size + 1 := ⟨_, rfl⟩
  rw [← h5] at HVU0_2
  rw [← h7] at HVU1_2
  rw [← h9] at HVU2
  rw [← h5, ← h7, ← h9]
  clear h5 h7 h9 HBU0 HBU1 HBU2 HF hg
  obtain ⟨c0, c1, c2⟩ := CellsAt.c3 HVU0_2.out
  obtain ⟨d0, d1, d2⟩ := CellsAt.c3 HVU1_2.out
  obtain ⟨e0, e1, e2⟩ := CellsAt.c3 HVU2.out
  obtain ⟨p0, p1, p2⟩ := CellsAt.c3 HFU.out.1
  obtain ⟨q0, q1, q2⟩ := CellsAt.c3 HFU.out.2.1
  go_upto_region 11 with fail
  refine wp_name fun X0 hX0 => ?_
  have HX0 : Hid (Below g1 w X0) := by rw [hX0]; exact HFU.out.2.2
  clear hX0 HFU HVU0_2 HVU1_2 HVU2 c0 c1 c2 d0 d1 d2 e0 e1 e2 p0 p1 p2 q0 q1 q2
  obtain ⟨D1, K1, hD1, hmk1⟩ := mk_str 256 256 rfl (by omega)
  obtain ⟨D2, K2, hD2, hmk2⟩ := mk_str 4074 4074 rfl (by omega)
  obtain ⟨D3, K3, hD3, hmk3⟩ := mk_str 4073 4073 rfl (by omega)
  have M1 : Hid (∀ u, (Instr.makeSlice 56 (.int .i64 256) (.int .i64 256)).run Tryz.prog u = .ok (.slice (some ⟨u.heap.size, 0, none⟩) 256 256) (u.alloc (.cells K1 5))) := fun u => (hmk1 u).1
  have N1 : Hid (∀ u : World, (convert 56 9 (.slice (some ⟨u.heap.size, 0, none⟩) 256 256)).run Tryz.prog (u.alloc (.cells K1 5)) = .ok (.string D1) (u.alloc (.cells K1 5))) := fun u => (hmk1 u).2
  have M2 : Hid (∀ u, (Instr.makeSlice 56 (.int .i64 4074) (.int .i64 4074)).run Tryz.prog u = .ok (.slice (some ⟨u.heap.size, 0, none⟩) 4074 4074) (u.alloc (.cells K2 5))) := fun u => (hmk2 u).1
  have N2 : Hid (∀ u : World, (convert 56 9 (.slice (some ⟨u.heap.size, 0, none⟩) 4074 4074)).run Tryz.prog (u.alloc (.cells K2 5)) = .ok (.string D2) (u.alloc (.cells K2 5))) := fun u => (hmk2 u).2
  have M3 : Hid (∀ u, (Instr.makeSlice 56 (.int .i64 4073) (.int .i64 4073)).run Tryz.prog u = .ok (.slice (some ⟨u.heap.size, 0, none⟩) 4073 4073) (u.alloc (.cells K3 5))) := fun u => (hmk3 u).1
  have N3 : Hid (∀ u : World, (convert 56 9 (.slice (some ⟨u.heap.size, 0, none⟩) 4073 4073)).run Tryz.prog (u.alloc (.cells K3 5)) = .ok (.string D3) (u.alloc (.cells K3 5))) := fun u => (hmk3 u).2
  clear hmk1 hmk2 hmk3
  obtain ⟨s1, y1, y2, y3, y4⟩ := k_long D1 hD1
  obtain ⟨s3, y5⟩ := k_fits D3 hD3
  have HLA1 : Hid (∀ (g : Nat) (W : World) (cs : Array Value), CellsAt W g cs 32 → cs = (List.flatMap Rw.cs [⟨64, 2, D1⟩]).toArray → Calls Tryz.prog 13 #[.slice (some ⟨g, 0, none⟩) 1 1] W fun e w' => e = .returned (.tuple #[.string s1, .int .i64 0]) ∧ Below W.heap.size W w') := fun g W cs h hcs => by
    have h2 := klay [⟨64, 2, D1⟩] (fun q hq => by rw [List.mem_singleton.1 hq]; show D1.size ≤ _; omega) (by simp) g W cs h hcs
    rw [y1] at h2
    exact h2
  have HLA2 : Hid (∀ (g : Nat) (W : World) (cs : Array Value), CellsAt W g cs 32 → cs = (List.flatMap Rw.cs [⟨0, 0, D2⟩]).toArray → Calls Tryz.prog 13 #[.slice (some ⟨g, 0, none⟩) 1 1] W fun e w' => e = .returned (.tuple #[.string ⟨#[]⟩, .int .i64 3]) ∧ Below W.heap.size W w') := fun g W cs h hcs => by
    have h2 := klay [⟨0, 0, D2⟩] (fun q hq => by rw [List.mem_singleton.1 hq]; show D2.size ≤ _; omega) (by simp) g W cs h hcs
    rw [layR_no (k_over D2 hD2)] at h2
    exact h2
  have HLA3 : Hid (∀ (g : Nat) (W : World) (cs : Array Value), CellsAt W g cs 32 → cs = (List.flatMap Rw.cs [⟨0, 0, D3⟩]).toArray → Calls Tryz.prog 13 #[.slice (some ⟨g, 0, none⟩) 1 1] W fun e w' => e = .returned (.tuple #[.string s3, .int .i64 0]) ∧ Below W.heap.size W w') := fun g W cs h hcs => by
    have h2 := klay [⟨0, 0, D3⟩] (fun q hq => by rw [List.mem_singleton.1 hq]; show D3.size ≤ _; omega) (by simp) g W cs h hcs
    rw [y5] at h2
    exact h2
  have HSP1 : Hid (∀ W, Calls Tryz.prog 17 #[.string s1] W fun e w' => (∃ A c, e = .returned (.tuple #[.slice A 1 c, .bool true]) ∧ RwsOk w' A c [normR ⟨64, 2, D1⟩]) ∧ Below W.heap.size W w') := fun W => ksplit s1 [normR ⟨64, 2, D1⟩] true W (by omega) (by rw [y4]; rfl) (fun h => by cases h) (fun q hq => by rw [List.mem_singleton.1 hq]; show D1.size ≤ _; omega)
  have HSP2 : Hid (∀ W, Calls Tryz.prog 17 #[.string (ByteArray.mk #[64, 1, 1])] W fun e w' => (∃ A c, e = .returned (.tuple #[.slice A 0 c, .bool false]) ∧ RwsOk w' A c []) ∧ Below W.heap.size W w') := fun W => ksplit (ByteArray.mk #[64, 1, 1]) [] false W (by decide) (by kernel_rfl) (fun _ => rfl) (fun q hq => by cases hq)
  have HSP3 : Hid (∀ W, Calls Tryz.prog 17 #[.string (ByteArray.mk #[64, 1])] W fun e w' => (∃ A c, e = .returned (.tuple #[.slice A 0 c, .bool false]) ∧ RwsOk w' A c []) ∧ Below W.heap.size W w') := fun W => ksplit (ByteArray.mk #[64, 1]) [] false W (by decide) (by kernel_rfl) (fun _ => rfl) (fun q hq => by cases hq)
  have HSP4 : Hid (∀ W, Calls Tryz.prog 17 #[.string (ByteArray.mk #[])] W fun e w' => (∃ A c, e = .returned (.tuple #[.slice A 0 c, .bool true]) ∧ RwsOk w' A c []) ∧ Below W.heap.size W w') := fun W => ksplit (ByteArray.mk #[]) [] true W (by decide) (by kernel_rfl) (fun h => by cases h) (fun q hq => by cases hq)
  have HY2 := Lib.hid y2
  have HY3 := Lib.hid y3
  have HFL : Hid ((normR ⟨64, 2, D1⟩).f = 80) := k_flag D1 hD1
  clear y1 y2 y3 y4 y5 hD1 hD2 hD3
  have HKB1 : Hid (CellsAt ((X0.alloc (.cells K1 5)).alloc (.cells #[.int .u8 64, .int .u8 2, .string D1] 32)) (X0.heap.size + 1) #[.int .u8 64, .int .u8 2, .string D1] 32) := by
    have h := CellsAt.new (X0.alloc (.cells K1 5)) #[.int .u8 64, .int .u8 2, .string D1] 32
    rwa [show (X0.alloc (.cells K1 5)).heap.size = X0.heap.size + 1 by simp] at h
  go_wp2_with (with_reducible show wpList _ _ _ (_ :: _) _ _; first | refine wpList_mk_str rfl (.const (.int .i64 256)) (.const (.int .i64 256)) rfl 256 rfl rfl 256 K1 M1 ?_ | refine wpList_conv_str rfl (.tmp 148) rfl X0.heap.size 256 rfl D1 (N1.out _) ?_)
  refine (HLA1.out (X0.heap.size + 1) _ #[.int .u8 64, .int .u8 2, .string D1] HKB1.out rfl).mono ?_
  rintro e X1 ⟨rfl, hb⟩
  have HBX : Hid (Below X0.heap.size X0 X1) := (((Below.refl _ _).alloc (Nat.le_refl _) _).alloc (by simp <;> omega) _).trans (hb.mono (by simp <;> omega))
  have HX1 : Hid (Below g1 w X1) := HX0.out.trans (HBX.out.mono (by have h1 := HX0.out.size; have h2 := HG1.out; omega))
  clear hb HBX HX0 HLA1 HKB1 M1 N1
  go_wp2_with fail
  refine (HSP1.out _).mono ?_
  rintro e X2 ⟨⟨AM, cM, rfl, hmM⟩, hb⟩
  have HBX : Hid (Below X1.heap.size X1 X2) := hb
  have HM2 := Lib.hid hmM
  have hcM := hmM.len
  have hcM2 := hmM.cap
  clear hmM
  have HX2 : Hid (Below g1 w X2) := HX1.out.trans (HBX.out.mono (by have h1 := HX1.out.size; have h2 := HG1.out; omega))
  clear hb HBX HX1 HSP1
  have HKB2 : Hid (CellsAt ((X2.alloc (.cells K2 5)).alloc (.cells #[.int .u8 0, .int .u8 0, .string D2] 32)) (X2.heap.size + 1) #[.int .u8 0, .int .u8 0, .string D2] 32) := by
    have h := CellsAt.new (X2.alloc (.cells K2 5)) #[.int .u8 0, .int .u8 0, .string D2] 32
    rwa [show (X2.alloc (.cells K2 5)).heap.size = X2.heap.size + 1 by simp] at h
  go_wp2_with (with_reducible show wpList _ _ _ (_ :: _) _ _; first | refine wpList_mk_str rfl (.const (.int .i64 4074)) (.const (.int .i64 4074)) rfl 4074 rfl rfl 4074 K2 M2 ?_ | refine wpList_conv_str rfl (.tmp 161) rfl X2.heap.size 4074 rfl D2 (N2.out _) ?_)
  refine (HLA2.out (X2.heap.size + 1) _ #[.int .u8 0, .int .u8 0, .string D2] HKB2.out rfl).mono ?_
  rintro e X3 ⟨rfl, hb⟩
  have HBX : Hid (Below X2.heap.size X2 X3) := (((Below.refl _ _).alloc (Nat.le_refl _) _).alloc (by simp <;> omega) _).trans (hb.mono (by simp <;> omega))
  have HM3 := Lib.hid (HM2.out.below HBX.out (Nat.le_refl _))
  clear HM2
  have HX3 : Hid (Below g1 w X3) := HX2.out.trans (HBX.out.mono (by have h1 := HX2.out.size; have h2 := HG1.out; omega))
  clear hb HBX HX2 HLA2 HKB2 M2 N2
  have HKB3 : Hid (CellsAt ((X3.alloc (.cells K3 5)).alloc (.cells #[.int .u8 0, .int .u8 0, .string D3] 32)) (X3.heap.size + 1) #[.int .u8 0, .int .u8 0, .string D3] 32) := by
    have h := CellsAt.new (X3.alloc (.cells K3 5)) #[.int .u8 0, .int .u8 0, .string D3] 32
    rwa [show (X3.alloc (.cells K3 5)).heap.size = X3.heap.size + 1 by simp] at h
  go_wp2_with (with_reducible show wpList _ _ _ (_ :: _) _ _; first | refine wpList_mk_str rfl (.const (.int .i64 4073)) (.const (.int .i64 4073)) rfl 4073 rfl rfl 4073 K3 M3 ?_ | refine wpList_conv_str rfl (.tmp 169) rfl X3.heap.size 4073 rfl D3 (N3.out _) ?_)
  refine (HLA3.out (X3.heap.size + 1) _ #[.int .u8 0, .int .u8 0, .string D3] HKB3.out rfl).mono ?_
  rintro e X4 ⟨rfl, hb⟩
  have HBX : Hid (Below X3.heap.size X3 X4) := (((Below.refl _ _).alloc (Nat.le_refl _) _).alloc (by simp <;> omega) _).trans (hb.mono (by simp <;> omega))
  have HM4 := Lib.hid (HM3.out.below HBX.out (Nat.le_refl _))
  clear HM3
  have HX4 : Hid (Below g1 w X4) := HX3.out.trans (HBX.out.mono (by have h1 := HX3.out.size; have h2 := HG1.out; omega))
  clear hb HBX HX3 HLA3 HKB3 M3 N3
  go_wp2_with fail
  refine (HSP2.out _).mono ?_
  rintro e X5 ⟨⟨AN, cN, rfl, hmN⟩, hb⟩
  have HBX : Hid (Below X4.heap.size X4 X5) := hb
  clear hmN
  have HM5 := Lib.hid (HM4.out.below HBX.out (Nat.le_refl _))
  clear HM4
  have HX5 : Hid (Below g1 w X5) := HX4.out.trans (HBX.out.mono (by have h1 := HX4.out.size; have h2 := HG1.out; omega))
  clear hb HBX HX4 HSP2
  go_wp2_with fail
  refine (HSP3.out _).mono ?_
  rintro e X6 ⟨⟨AO, cO, rfl, hmO⟩, hb⟩
  have HBX : Hid (Below X5.heap.size X5 X6) := hb
  clear hmO
  have HM6 := Lib.hid (HM5.out.below HBX.out (Nat.le_refl _))
  clear HM5
  have HX6 : Hid (Below g1 w X6) := HX5.out.trans (HBX.out.mono (by have h1 := HX5.out.size; have h2 := HG1.out; omega))
  clear hb HBX HX5 HSP3
  go_wp2_with fail
  refine (HSP4.out _).mono ?_
  rintro e X7 ⟨⟨AP, cP, rfl, hmP⟩, hb⟩
  have HBX : Hid (Below X6.heap.size X6 X7) := hb
  clear hmP
  have HM7 := Lib.hid (HM6.out.below HBX.out (Nat.le_refl _))
  clear HM6
  have HX7 : Hid (Below g1 w X7) := HX6.out.trans (HBX.out.mono (by have h1 := HX6.out.size; have h2 := HG1.out; omega))
  clear hb HBX HX6 HSP4
  obtain ⟨bM, oM, rfl, hbM, p0, p1, p2⟩ := rw_at HM7.out.rd (i := 0) rfl
  rw [HFL.out] at p0
  have p0' : X7.cell? ⟨bM, oM, none⟩ = some (.int .u8 80) := p0
  have hl1 : (1 : Nat) ≤ cM := by simpa using hcM
  have z260 : ((s1.size : Int) == 260) = true := beq_iff_eq.2 (by have := HY2.out; omega)
  have z260' : ((s1.size : Int) != 260) = false := by rw [bne, z260]; rfl
  have h4 : (4 : Int) ≤ (s1.size : Int) := by have := HY2.out; omega
  have he4 : ((s1.extract 0 4).toList == (ByteArray.mk #[80, 2, 1, 0]).toList) = true := bytes_eq.2 HY3.out
  have he5 : (s1.extract 0 4).toList = [80, 2, 1, 0] := by rw [HY3.out, ByteArray.toList_eq]
  have he6 : ((s1.extract 0 4).toList == [80, 2, 1, 0]) = true := beq_iff_eq.2 he5
  clear p0 p1 p2 hcM
  go_upto_region 20 with fail
  refine wp_name fun Y0 hY0 => ?_
  have HY0 : Hid (Below g1 w Y0) := by rw [hY0]; exact HX7.out
  clear hY0 HX7 HM7 hbM p0' hl1 z260 z260' h4 he4 he5 he6 HY2 HY3 HFL hcM2
  obtain ⟨K4, hK4, hmk4⟩ := mk_zeros
  have HMK4 := Lib.hid hmk4
  have HK4 := Lib.hid hK4
  clear hmk4 hK4
  have HRB : Hid (∀ parts : Array (Nat × Operand), parts = parts) := fun _ => rfl
  go_upto_region 21 with (with_reducible show wpList _ _ _ (_ :: _) _ _; first | refine wpList_mk_u32 rfl (.const (.int .i64 33)) (.const (.int .i64 33)) rfl 33 rfl rfl 33 K4 HMK4 ?_ | refine wpList_build_attrs rfl rfl (bads Y0.heap.size) (by kernel_rfl) (by kernel_rfl) (by decide) (by decide) ?_)
  refine wp_name fun Y hY => ?_
  obtain ⟨q, hq⟩ : ∃ q, q = Y0.heap.size := ⟨_, rfl⟩
  have HALL : Hid (CellsAt Y q #[.int .u32 2, .int .u32 1] 35 ∧ CellsAt Y (q + 1) #[.int .u32 1, .int .u32 1] 35 ∧ CellsAt Y (q + 1 + 1) #[.int .u64 2, .int .u64 1] 57 ∧ CellsAt Y (q + 1 + 1 + 1) #[.int .u32 0, .int .u32 1, .int .u32 0, .int .u32 0, .int .u32 0, .int .u32 0] 59 ∧ CellsAt Y (q + 1 + 1 + 1 + 1) K4 35 ∧ CellsAt Y (q + 1 + 1 + 1 + 1 + 1) #[.int .i64 0, .slice none 0 0] 61 ∧ CellsAt Y (q + 1 + 1 + 1 + 1 + 1 + 1) (atRows (bads q)) 40 ∧ Below Y0.heap.size Y0 Y) := by
    subst hq
    exact known_blocks Y0 Y K4 hY
  rw [← hq]
  have HYB : Hid (Below g1 w Y) := HY0.out.trans (HALL.out.2.2.2.2.2.2.2.mono (by have h1 := HY0.out.size; have h2 := HG1.out; omega))
  have HBOK : Hid (∀ p ∈ bads q, AtrOk Y p) := bads_ok q Y K4 HK4.out HALL.out.1 HALL.out.2.1 HALL.out.2.2.1 HALL.out.2.2.2.1 HALL.out.2.2.2.2.1 HALL.out.2.2.2.2.2.1
  have HROW : Hid (CellsAt Y (q + 1 + 1 + 1 + 1 + 1 + 1) (atRows (bads q)) 40) := HALL.out.2.2.2.2.2.2.1
  obtain ⟨r, hr⟩ : ∃ r, r = q + 1 + 1 + 1 + 1 + 1 + 1 := ⟨_, rfl⟩
  rw [← hr] at HROW ⊢
  have hrl := HROW.out.lt
  have HNO := Lib.hid (bads_no q)
  have HLEN : Hid ((bads q).length = 13) := rfl
  generalize bads q = PS at HBOK HROW HNO HLEN
  clear hY hq hr HALL HY0 HMK4 HK4 HRB
  have HWB : Hid (∀ (p : Atr) (W : World), AtrOk W p → atOk p.c = false → Calls Tryz.prog 25 #[.agg p.ar, .bool true] W fun e w' => e = .returned (.tuple #[.slice none 0 0, .int .i64 2]) ∧ Below W.heap.size W w') := fun p W h hn => write_bad p true W h hn
  have HCK : Hid (∀ (p : Atr) (W : World), AtrOk W p → atOk p.c = false → Calls Tryz.prog 26 #[.agg p.ar] W fun e w' => e = .returned (.int .i64 2) ∧ Below W.heap.size W w') := fun p W h hn => by
    have h2 := check_any p W h
    rwa [hn] at h2
  have HWK := Lib.hid works_any
  have HTW := Lib.hid two_any
  have HC0 : Hid (∀ W : World, Calls Tryz.prog 26 #[.agg noAtr.ar] W fun e w' => e = .returned (.int .i64 0) ∧ Below W.heap.size W w') := fun W => check_ok noAtr W (noAtr_ok W) noC_ok
  go_wp2_with fail
  go_loopw [25, 26, 27] (fun i _ _ wr => ∃ k : Nat, i = .int .i64 k ∧ k ≤ 13 ∧ Hid (Below Y.heap.size Y wr)) (fun i _ _ _ => 14 - (intOf i).toNat)
  case atStart => exact ⟨0, rfl, by omega, Below.refl _ _⟩
  case round =>
    obtain ⟨k, rfl, hk, HBR⟩ := hrel
    have HRR : Hid (CellsAt wr r (atRows PS) 40) := HROW.out.below HBR.out hrl
    by_cases hlt : k < 13
    · obtain ⟨p, hp⟩ : ∃ p, PS[k]? = some p := ⟨PS[k]'(by rw [HLEN.out]; exact hlt), List.getElem?_eq_getElem _⟩
      have HP := Lib.hid hp
      have HPO : Hid (AtrOk wr p) := (HBOK.out p (List.mem_of_getElem? hp)).below HBR.out (Nat.le_refl _)
      have HPN : Hid (atOk p.c = false) := HNO.out p (List.mem_of_getElem? hp)
      clear hp
      go_wp2_with (with_reducible show wpList _ _ _ (_ :: _) _ _; refine wpList_load_at rfl (.tmp 266) rfl r k rfl PS p HRR.out HP.out ?_)
      refine (HWB.out p _ HPO.out HPN.out).mono ?_
      rintro e v1 ⟨rfl, hb⟩
      have HR1 : Hid (CellsAt v1 r (atRows PS) 40) := HRR.out.below hb HRR.out.lt
      have HP1 := Lib.hid (HPO.out.below hb (Nat.le_refl _))
      have HB1 := Lib.hid (HBR.out.trans (hb.mono HBR.out.size))
      clear hb HRR HPO HBR
      go_wp2_with (with_reducible show wpList _ _ _ (_ :: _) _ _; refine wpList_load_at rfl (.tmp 273) rfl r k rfl PS p HR1.out HP.out ?_)
      refine (HCK.out p _ HP1.out HPN.out).mono ?_
      rintro e v2 ⟨rfl, hb⟩
      have HB2 := Lib.hid (HB1.out.trans (hb.mono HB1.out.size))
      clear hb HR1 HP1 HB1
      go_wp2_with fail
      exact ⟨⟨k + 1, by go_num, by omega, HB2.out⟩, by simp [intOf]; omega⟩
    · have HBZ : Hid (Below g1 w wr) := HYB.out.trans (HBR.out.mono (by have h1 := HYB.out.size; have h2 := HG1.out; omega))
      clear HBR HRR HYB
      go_wp2_with fail
      refine (HTW.out _).mono ?_
      rintro e z1 ⟨⟨A, c, rfl, hm⟩, hb⟩
      have HM := Lib.hid hm
      have HB1 := Lib.hid (HBZ.out.trans (hb.mono (by have h1 := HBZ.out.size; have h2 := HG1.out; omega)))
      have hc3 : 3 ≤ c := hm.len
      clear hm hb HBZ
      go_wp2_with fail
      refine (HWK.out _).mono ?_
      rintro e z2 ⟨rfl, hb⟩
      have HM2 := Lib.hid (HM.out.below hb (Nat.le_refl _))
      have HB2 := Lib.hid (HB1.out.trans (hb.mono (by have h1 := HB1.out.size; have h2 := HG1.out; omega)))
      clear hb HM HB1
      obtain ⟨b0, o0, rfl, hb0, p0, p1, p2⟩ := rw_at HM2.out.rd (i := 2) rfl
      have p0' : z2.cell? ⟨b0, o0 + 6, none⟩ = some (.int .u8 192) := p0
      have p1' : z2.cell? ⟨b0, o0 + 7, none⟩ = some (.int .u8 7) := p1
      have p2' : z2.cell? ⟨b0, o0 + 8, none⟩ = some (.string (ByteArray.mk #[91, 160, 0, 0, 0, 1])) := p2
      clear p0 p1 p2
      go_wp2_with fail
      refine (HC0.out _).mono ?_
      rintro e z3 ⟨rfl, hb⟩
      have HB3 : Hid (Below w.heap.size w z3) := by
        have h := HB2.out.trans (hb.mono (by have h1 := HB2.out.size; have h2 := HG1.out; omega))
        rw [HG1.out] at h
        exact h
      clear hb
      go_wp2_with fail
      go_ret
      exact ⟨rfl, HB3.out⟩
set_option maxHeartbeats 4000000 in
set_option maxRecDepth 100000 in
theorem attrKnown_lifted (os : Os) (started : os.Started) (H : Type) (enc : TypeId × Value → H) :
    ReturnsInHanded {} Tryz.checked os 11 .any (Rows.attrKnownSpec.pre6 enc Tryz.prog Tryz.f11 Rows.attrKnownRow.domain false) (Rows.attrKnownSpec.post enc Tryz.prog Tryz.f11 false true false false) := by
  refine returnsInHanded_of_change (C := Tryz.checked) own started (by kernel_rfl) Tryz.func11
    (ChangeSpec.witness6 (enc := enc) (C := Tryz.checked) false ⟨#[], #[], []⟩ 8 (by kernel_rfl) (by kernel_rfl) (by kernel_rfl) (by kernel_rfl)) ?_
  intro W base args ds gs before hval0 hW hcnd _
  have hval : ∀ (j : Nat) t v, Tryz.f11.params[j]? = some t → args[j]? = some v → Value.okWide Tryz.prog W .any base t v := hval0
  have hW' := hW
  obtain ⟨p, q, hA0, hV, rfl, hfz, hnd⟩ := hW
  have hA : DataW.TrodAll enc Tryz.prog W 0 (fun _ => true) true Tryz.f11.params.toList args.toList ds p := hA0
  rw [Tryz.params11] at hA hval
  obtain ⟨hargs, rfl, rfl⟩ := trodAll_none hA
  obtain rfl : args = #[] := by cases args; simp_all
  obtain ⟨rfl, rfl⟩ := trodVars_none hV
  refine (known_walk W).mono fun e W' ⟨he, bel⟩ => ?_
  exact ⟨_, he, law_post laidOut (by kernel_rfl) rfl (by kernel_rfl) Tryz.underlying4 hW' rfl bel⟩

theorem attrKnown_holds : Rows.AttrKnownSaid :=
  OpenClaim.holds_of_wide 11 Tryz.f11 rfl rfl rfl rfl rfl rfl rfl ⟨rfl, rfl, rfl, rfl, rfl⟩ rfl rfl rfl rfl rfl (by kernel_rfl) Tryz.func11 (by kernel_rfl)
    (of_decide_eq_true (by kernel_rfl)) (by unfold Func.isWrapper; first | (rw [if_pos (by decide +kernel)]; kernel_rfl) | (rw [if_neg (by decide +kernel)]; exact ⟨rfl, rfl⟩))
    (fun os started H enc _ => attrKnown_lifted os started H enc)
end Go.Proofs.YtkcojblflebomaaGreat
